import Derived.Test.YtoldjebobgocpaaGreatPP
import Derived.Test.YtoldjebobgocpaaGreatPG
import Derived.Test.YtoldjebobgocpaaGreatPL
import Derived.Test.YtoldjebobgocpaaGreatPK
import Derived.Test.YtoldjebobgocpaaGreatPJ
import Derived.Test.YtoldjebobgocpaaGreatPM
import Derived.Test.YtoldjebobgocpaaGreatPN
import Derived.Test.YtoldjebobgocpaaGreatPO
namespace Go.Proofs.YtoldjebobgocpaaGreat
open Go.AM
set_option maxRecDepth 20000
set_option maxHeartbeats 51200000
def Ru (p : Call->Prop) (rr : RR) : Prop:=∃ c : Call,p c/\rr = .one (.agg c.res)
def vm (c : Call) : Prop:=dz c<=2 ^ 21
def dP (d : Doc) : Prop:=cq d<=2 ^ 30/\(0<=d.fr/\d.fr<=999999000)/\∀ c,0<=(bZ d c).1.seq/\(bZ d c).1.seq<=1000000000
theorem JO {d : Doc} (h : aL d) : dP d:=⟨Nat.le_trans (il h) (by decide),by have:=aV h;omega,λc=>by have:=jm h c;omega⟩
theorem wN : dP Doc.zero:=⟨by have h0 : (⟨#[]⟩ : ByteArray).size = 0:=rfl;simp [cq,Doc.zero,nL,bQ,h0],by simp [Doc.zero],λc=>by simp [bZ,Doc.zero]⟩
theorem fQ {k cl sq n : Int} {s : ByteArray} {o : List Part} {t : List Int} (hs : s.size<=8) (ho : nL aF o<=2 ^ 20) (ht : t.length<=1000) : vm ⟨k,s,cl,sq,n,o,t⟩:=by unfold vm dz;simp only;omega
theorem uQ {o : List Part} (h : o.length<=44) (hp : ∀ p∈o,md p) : nL aF o<=2 ^ 20:=by
 have:=nE (f:=aF) (l:=o) (B:=4) (λp hq=>by have:=hp p hq;unfold md at this;unfold aF;omega);omega
theorem pL (l : List UInt8) (hl : l.length<=2 ^ 40) (a : Hub) (ok : an a) : ox Tryz.prog 141 (l.map e9) 126 [.agg a.row] (Ru vm):=by
 refine ox.intro ae Tryz.func126 (by kernel_rfl) rfl rfl rfl (Nat.le_of_ble_eq_true rfl) (λw0 base o b u i h hi0 hi1 hu=>?_);have hi1 : i<=(l.length : Int):=by simpa using hi1
 have hn : cf a<=2 ^ 28:=Nat.le_trans (eH ok).1 (by decide);simp [Hub.row];intro b3 b4;refine bE (mX l hl).toN hu (by simp) rfl hi0 hi1 (by simp) ?_
 rintro _ i1 h1 ⟨s,hs,rfl⟩ g0 g1
 have hsz : s.size<=8:=hs.1.2;by_cases e0 : a.docs = []
 case' pos=>
  have e1 : a.docs.length = 0:=by rw [e0];rfl
  simp [e0]
  have e : ar a.docs s = -1:=by
   rcases bD a.docs s with ⟨k,hk,-,-⟩ | e
   ·omega
   ·exact e
  refine aa.pure (cu a (by omega) s) (by simp [Hub.row,e0]) ?_;rw [e];simp;intro b7;obtain ⟨d,hdz⟩ : ∃ d,d = Doc.zero:=⟨_,rfl⟩;have dp : dP d:=hdz ▸ wN
  clear e
  generalize s = s2 at hsz ⊢
 case' neg=>
  have hpos : 0 < a.docs.length:=List.length_pos_iff.2 e0;simp [hpos];refine aa.cur (gi l hl 6) hu (by simp) rfl g0 g1 (by simp) ?_
  rintro _ i2 h2 ⟨qq,rfl⟩ g0 g1
  cases qq
  case' true=>
   simp;refine aa.pure (cu a (by omega) s) (by simp [Hub.row]) ?_;simp;intro b7;rcases bD a.docs s with ⟨k,hk,e,-⟩ | e
   case' inl=>
    obtain ⟨d,hd⟩ : ∃ d,a.docs[k] = d:=⟨_,rfl⟩;have dp : dP d:=JO (hd ▸ ch ok hk);simp [e,hk,hd,Doc.row]
   case' inr=>
    obtain ⟨d,hdz⟩ : ∃ d,d = Doc.zero:=⟨_,rfl⟩;have dp : dP d:=hdz ▸ wN;simp [e]
   all_goals
    clear e
    generalize s = s2 at hsz ⊢
  case' false=>
   simp;refine drw eok mix [0,1,2,3,4,5] [6,7,8,9,10] (.c 6 6 9 54 (.c 6 7 16 38 (.c 6 8 0 38 (.c 6 9 0 38 (.c 6 10 38 0 (.l 6 0) .s) .s) .s) .s) .s) ?_;simp
   try intros
   refine aa.cur (al l hl a.docs.length) hu (by simp) rfl g0 g1 (by simp) ?_;rintro _ i3 h3 ⟨kk,hkk,rfl⟩ g0 g1;obtain ⟨k,rfl⟩ : ∃ k : Nat,kk = (k : Int):=⟨kk.toNat,by have:=hkk.1;omega⟩;have hk : k < a.docs.length:=(by have:=hkk.2.2 (by omega);omega);obtain ⟨d0,hd0⟩ : ∃ d,a.docs[k] = d:=⟨_,rfl⟩;simp [hk,hd0,Doc.row]
   try intros
   have hsz : d0.name.size<=8:=(hd0 ▸ ch ok hk).1.1.2;refine aa.pure (cu a (by omega) d0.name) (by simp [Hub.row]) ?_;simp;intro b7;rcases bD a.docs d0.name with ⟨k,hk,e,-⟩ | e
   case' inl=>
    obtain ⟨d,hd⟩ : ∃ d,a.docs[k] = d:=⟨_,rfl⟩;have dp : dP d:=JO (hd ▸ ch ok hk);simp [e,hk,hd,Doc.row]
   case' inr=>
    obtain ⟨d,hdz⟩ : ∃ d,d = Doc.zero:=⟨_,rfl⟩;have dp : dP d:=hdz ▸ wN;simp [e]
   all_goals
    clear e
    generalize d0.name = s2 at hsz ⊢
 all_goals
  refine aa.cur (al l hl 14) hu (by simp) rfl g0 g1 (by simp) ?_
  rintro _ i3 h3 ⟨z,hz,rfl⟩ g0 g1
  simp;by_cases z0 : z = 0
  ·simp [z0]
   refine bE (mX l hl).toN hu (by simp) rfl g0 g1 (by simp) ?_
   rintro _ i4 h4 ⟨s2,hs2,rfl⟩ g0 g1
   simp;refine bE (gZ l hl 4 (by omega) (by omega)).toN hu (by simp) rfl g0 g1 (by simp) ?_
   rintro _ i5 h5 ⟨t,ht,rfl⟩ g0 g1
   simp;refine ⟨_,⟨(⟨1,s2,0,0,0,[],t⟩ : Call),fQ (by have:=hs2.1;omega) (by simp [nL,bQ]) (by have:=ht.1;omega),rfl⟩,?_,ai rfl g0 g1⟩;simp [Call.res]
  by_cases z1 : z = 1
  ·simp [z1]
   refine aa.cur (pN l hl d (by have:=dp.1;omega) (by have:=dp.2.1;omega)) hu (by simp) rfl g0 g1 (by first | (simp [Doc.row];done) | simp [Doc.row,hdz,Doc.zero]) ?_
   rintro _ i4 h4 ⟨bs,-,rfl⟩ g0 g1
   simp;refine ⟨_,⟨(⟨3,s2,0,0,bs,[],[]⟩ : Call),fQ hsz (by simp [nL,bQ]) (by simp),rfl⟩,?_,ai rfl g0 g1⟩;simp [Call.res]
  by_cases z2 : z = 2
  ·simp [z2]
   refine ⟨_,⟨(⟨4,s2,0,0,0,[],[]⟩ : Call),fQ hsz (by simp [nL,bQ]) (by simp),rfl⟩,?_,ai rfl g0 g1⟩;simp [Call.res]
  by_cases z3 : z = 3
  ·simp [z3]
   refine aa.cur (al l hl 3) hu (by simp) rfl g0 g1 (by simp) ?_
   rintro _ i5 h5 ⟨y,hy,rfl⟩ g0 g1
   have wy:=Go.IntWalk.i64_in (1 + y) (by have:=hy.1;have:=hy.2.2 (by omega);omega);simp [wy];refine ⟨_,⟨(⟨5,s2,0,0,1 + y,[],[]⟩ : Call),fQ hsz (by simp [nL,bQ]) (by simp),rfl⟩,?_,ai rfl g0 g1⟩;simp [Call.res]
  by_cases z4 : z = 4\/z = 5
  ·have z4' : dc (z = 4) = true\/(dc (z = 4) = false/\dc (z = 5) = true):=by
    rcases z4 with e | e
    ·left;rw [jA];exact e
    ·right;rw [cE,jA];exact ⟨by omega,e⟩
   rcases z4 with e | e
   ·simp [e]
    refine aa.cur (al l hl 3) hu (by simp) rfl g0 g1 (by simp) ?_
    rintro _ i5 h5 ⟨y,hy,rfl⟩ g0 g1
    have wy:=Go.IntWalk.i64_in (1 + y) (by have:=hy.1;have:=hy.2.2 (by omega);omega);simp [wy];refine aa.cur (al l hl 3) hu (by simp) rfl g0 g1 (by simp) ?_
    rintro _ i6 h6 ⟨y2,hy2,rfl⟩ g0 g1
    have wy2:=Go.IntWalk.i64_in (1 + y2) (by have:=hy2.1;have:=hy2.2.2 (by omega);omega);simp [wy2];refine ⟨_,⟨(⟨6,⟨#[]⟩,1 + y,0,1 + y2,[],[]⟩ : Call),fQ (by decide) (by simp [nL,bQ]) (by simp),rfl⟩,?_,ai rfl g0 g1⟩;simp [Call.res]
   ·simp [e]
    refine aa.cur (al l hl 3) hu (by simp) rfl g0 g1 (by simp) ?_
    rintro _ i5 h5 ⟨y,hy,rfl⟩ g0 g1
    have wy:=Go.IntWalk.i64_in (1 + y) (by have:=hy.1;have:=hy.2.2 (by omega);omega);simp [wy];refine aa.cur (al l hl 3) hu (by simp) rfl g0 g1 (by simp) ?_
    rintro _ i6 h6 ⟨y2,hy2,rfl⟩ g0 g1
    have wy2:=Go.IntWalk.i64_in (1 + y2) (by have:=hy2.1;have:=hy2.2.2 (by omega);omega);simp [wy2];refine ⟨_,⟨(⟨6,⟨#[]⟩,1 + y,0,1 + y2,[],[]⟩ : Call),fQ (by decide) (by simp [nL,bQ]) (by simp),rfl⟩,?_,ai rfl g0 g1⟩;simp [Call.res]
  by_cases z6 : z = 6
  ·simp [z6]
   refine aa.cur (al l hl 3) hu (by simp) rfl g0 g1 (by simp) ?_
   rintro _ i5 h5 ⟨y,hy,rfl⟩ g0 g1
   have wy:=Go.IntWalk.i64_in (1 + y) (by have:=hy.1;have:=hy.2.2 (by omega);omega);simp [wy];refine ⟨_,⟨(⟨7,⟨#[]⟩,1 + y,0,0,[],[]⟩ : Call),fQ (by decide) (by simp [nL,bQ]) (by simp),rfl⟩,?_,ai rfl g0 g1⟩;simp [Call.res]
  have z4a : ¬ z = 4:=λe=>z4 (.inl e)
  have z5a : ¬ z = 5:=λe=>z4 (.inr e)
  by_cases z7 : z = 7
  case' pos=>
   simp [z7];refine aa.cur (gi l hl 4) hu (by simp) rfl g0 g1 (by simp) ?_
   rintro _ i5 h5 ⟨sh,rfl⟩ g0 g1
   cases sh
   case' true=>
    simp;refine ⟨_,⟨(⟨8,⟨#[]⟩,0,0,0,[],[]⟩ : Call),fQ (by decide) (by simp [nL,bQ]) (by simp),rfl⟩,?_,ai rfl g0 g1⟩;simp [Call.res]
   case' false=>simp
  case' neg=>simp [z0,z1,z2,z3,z4a,z5a,z6,z7]
  all_goals
   refine aa.cur (al l hl 3) hu (by simp) rfl g0 g1 (by simp) ?_
   rintro _ i5 h5 ⟨y,hy,rfl⟩ g0 g1
   have hy1:=hy.1;have hy2:=hy.2.2 (by omega);have wy:=Go.IntWalk.i64_in (1 + y) (by omega);simp [wy];have hsb:=dp.2.2 (1 + y);have hsc:=fv d (by have:=dp.1;omega) (1 + y);generalize bZ d (1 + y) = q at hsb hsc;obtain ⟨sn,sb⟩:=q;simp only at hsb hsc;refine aa.ro hsc (by first | (simp [Doc.row];done) | simp [Doc.row,hdz,Doc.zero]) ?_;simp [Seen.res];intro b9;have wsq:=Go.IntWalk.i64_in (sn.seq + 1) (by omega);simp [wsq];refine aa.cur (gi l hl 8) hu (by simp) rfl g0 g1 (by simp) ?_
   rintro _ i6 h6 ⟨qq,rfl⟩ g0 g1
   cases qq with
   | false=>
     simp;refine aa.cur (pN l hl d (by have:=dp.1;omega) (by have:=dp.2.1;omega)) hu (by simp) rfl g0 g1 (by first | (simp [Doc.row];done) | simp [Doc.row,hdz,Doc.zero]) ?_
     rintro _ i7 h7 ⟨bs,-,rfl⟩ g0 g1
     simp;refine bE (mW l hl d (by have:=dp.1;omega) bs).toN hu (by simp) rfl g0 g1 (by first | (simp [Doc.row];done) | simp [Doc.row,hdz,Doc.zero]) ?_
     rintro _ i8 h8 ⟨op,⟨hol,hop⟩,rfl⟩ g0 g1
     simp;refine ⟨_,⟨(⟨2,s2,1 + y,sn.seq + 1,bs,op,[]⟩ : Call),fQ hsz (uQ hol hop) (by simp),rfl⟩,?_,ai rfl g0 g1⟩;simp [Call.res]
   | true=>
     simp;refine aa.cur (al l hl 2) hu (by simp) rfl g0 g1 (by simp) ?_
     rintro _ i9 h9 ⟨y2,hz2,rfl⟩ g0 g1
     have hz1:=hz2.1;have hz3:=hz2.2.2 (by omega);have wy2:=Go.IntWalk.i64_in (1 + y2) (by omega);simp [wy2];refine aa.cur (pN l hl d (by have:=dp.1;omega) (by have:=dp.2.1;omega)) hu (by simp) rfl g0 g1 (by first | (simp [Doc.row];done) | simp [Doc.row,hdz,Doc.zero]) ?_
     rintro _ i7 h7 ⟨bs,-,rfl⟩ g0 g1
     simp;refine bE (mW l hl d (by have:=dp.1;omega) bs).toN hu (by simp) rfl g0 g1 (by first | (simp [Doc.row];done) | simp [Doc.row,hdz,Doc.zero]) ?_
     rintro _ i8 h8 ⟨op,⟨hol,hop⟩,rfl⟩ g0 g1
     simp;refine ⟨_,⟨(⟨2,s2,1 + y,1 + y2,bs,op,[]⟩ : Call),fQ hsz (uQ hol hop) (by simp),rfl⟩,?_,ai rfl g0 g1⟩;simp [Call.res]
set_option maxHeartbeats 3200000
theorem kj {h : Hub} {n : Int} (c : an h/\(1<=n/\n<=4)) : eQ h n = (⟨h,List.replicate n.toNat (-1),[],[],0⟩,true):=by unfold eQ;rw [if_pos c]
theorem lv {h : Hub} {n : Int} (c : ¬ (an h/\(1<=n/\n<=4))) : eQ h n = (Wld.zero,false):=by unfold eQ;rw [if_neg c]
theorem Fr (i : Nat) : List.replicate i (ak (-1)) ++ [[.v (.int .i64 (-1))]] = List.replicate (i + 1) (ak (-1)):=by
 rw [List.replicate_succ']
theorem rR (h : Hub) (hl : cf h<=2 ^ 30) (n : Int) : aj Tryz.prog 124 [.agg h.row,.c (vi n)] (.tup [.agg (eQ h n).1.res,.c (.v (.bool (eQ h n).2)) 1]):=by
 refine pci ae Tryz.func124 (λw0 base=>?_);simp [Hub.row];intro b1 b2;refine aa.pure (cX h hl) (by simp [Hub.row]) ?_;by_cases c1 : an h
 rotate_left
 ·have e:=lv (h:=h) (n:=n) (λh=>c1 h.1)
  simp [ab c1,e,Wld.res,Wld.zero,Hub.zero]
 simp [c1];refine aa.pure (aZ n 1 4) (by simp) ?_;by_cases c2 : 1<=n/\n<=4
 rotate_left
 ·have e:=lv (h:=h) (n:=n) (λh=>c2 h.2)
  simp [ab c2,e,Wld.res,Wld.zero,Hub.zero]
 have e:=kj (h:=h) (n:=n) ⟨c1,c2⟩;obtain ⟨m,rfl⟩ : ∃ m : Nat,n = m:=⟨n.toNat,by omega⟩;simp at e;simp [c2];refine aa.pure (bS h hl) (by simp [Hub.row]) ?_;simp [Hub.res];intro H1 H2 b6
 refine ag eok (λx : Nat × Hd=>x.1<=m) (λx=>⟨30,0,[(1,.v (.int .i64 m)),(4,.p 64 b2 0),(6,.p 96 b6 0)],
  [(96,.vars b6 39 [.v (.bool h.shut),.sl 273 H1 5 0 h.docs.length,.sl 274 H2 6 0 h.subs.length,.v (.int .i64 h.last),.sl 5000 x.2 1 0 x.1,.nil,.nil,.v (.int .i64 0)]),
   (64,.vars b2 39 [.v (.bool false),.nil,.nil,.v (.int .i64 0),.nil,.nil,.nil,.v (.int .i64 0)]),
   (273,.rows H1 5 (h.docs.map Doc.row) true),(274,.rows H2 6 (h.subs.map Sub.row) true),(5000,.rows x.2 1 ((List.replicate x.1 (-1 : Int)).map ak) true)]⟩) (λx=>m - x.1) (0,none) (by simp) (by simp) (λx hi=>Ent.refl ?_)
 obtain ⟨i,H⟩:=x;simp only at hi ⊢;by_cases hlt : i < m
 ·simp [hlt]
  intro b7;refine ⟨by omega,λH'=>Ent.refl ⟨i + 1,by omega,by omega,H',?_⟩⟩;simp;exact Fr i
 have hm : i = m:=by omega
 subst hm;simp [e,Wld.res]
inductive stepTo (w : Wld) : Wld->Prop
 | come {c : Call} (h : (e7 w c).2 = true) : stepTo w (e7 w c).1
 | pick {k : Int} (h : (cH w k).2 = true) : stepTo w (cH w k).1
 | serve {name : ByteArray} (h : (cF w name).2 = true) : stepTo w (cF w name).1
inductive Reach (h : Hub) : Nat->Wld->Prop
 | new {n : Int} (hn : (eQ h n).2 = true) : Reach h 0 (eQ h n).1
 | same {i : Nat} {w : Wld} (r : Reach h i w) : Reach h (i + 1) w
 | step {i : Nat} {w w' : Wld} (r : Reach h i w) (s : stepTo w w') : Reach h (i + 1) w'
theorem jo {h : Hub} {w : Wld} {i : Nat} : ∀ {j : Nat},Reach h i w->i<=j->Reach h j w
 | 0,r,hj=>by
   have : i = 0:=by omega
   subst this;exact r
 | j + 1,r,hj=>by
   by_cases e : i = j + 1
   ·subst e;exact r
   ·exact .same (jo r (by omega))
theorem Fk {w : Wld} {name : ByteArray} (h : (cF w name).2 = true) : ap w/\¬ w.step = 1000000/\∃ i : Nat,i < w.queues.length/\bq w.queues name = i:=by
 by_cases c : ap w/\¬ w.step = 1000000/\0<=bq w.queues name
 ·refine ⟨c.1,c.2.1,?_⟩
  rcases co w.queues name with ⟨j,hj,e,-⟩ | e
  ·exact ⟨j,hj,e⟩
  ·omega
 ·rw [kM c] at h;cases h
theorem AK {w : Wld} {i : Nat} (h : nk w i) {name : ByteArray} (hy : (cF w name).2 = true) : nk (cF w name).1 (i + 1)/\(cF w name).1.step = w.step + 1:=by
 obtain ⟨c,s,j,hj,e⟩:=Fk hy;obtain ⟨k,hk,rest,hl,hr⟩:=fY c hj;have h2:=Cm w.queues j w.queues[j] rest;have h3:=zF c hj;rw [jd c s hj e hk hl];exact ⟨pV c h hk rfl (by omega) _,rfl⟩
theorem Ds {w : Wld} {i : Nat} (h : nk w i) {c : Call} (hy : (e7 w c).2 = true) : nk (e7 w c).1 (i + 1)/\(e7 w c).1.step = w.step + 1:=by
 have ok:=yQ hy;unfold e7 at hy ok ⊢
 split at hy
 ·rename_i hc
  rw [if_pos hc] at ok ⊢;obtain ⟨h1,h2,h3,h4,h5⟩:=h
  have hm : ∀ t∈w.tasks ++ [dt c w.step],eC t<=2 ^ 25:=by
   intro t ht;rcases List.mem_append.1 ht with ht | ht
   ·exact h4 t ht
   ·simp at ht
    subst ht;have:=jB hc.1.2;have e : eC (dt c w.step) = dz c:=rfl;omega
  refine ⟨⟨h1,h2,by show nL dj w.queues<=_;omega,hm,?_⟩,rfl⟩;have h6 : nL eC (w.tasks ++ [dt c w.step])<=(w.tasks ++ [dt c w.step]).length * (2 ^ 25 + 1):=nE hm;have h7:=Nat.mul_le_mul_right (2 ^ 25 + 1) ok.2.2.2.1
  show nL eC (w.tasks ++ [dt c w.step])<=_
  simp only at h7;omega
 ·cases hy
theorem HT {w w' : Wld} {i : Nat} (h : nk w i) (s : stepTo w w') : ap w'/\nk w' (i + 1)/\w'.step = w.step + 1:=by
 cases s with
 | come hy=>exact ⟨yQ hy,Ds h hy⟩
 | pick hy=>exact ⟨GB hy,Dr h hy,AN hy⟩
 | serve hy=>exact ⟨Dv hy,AK h hy⟩
theorem IW {w : Wld} {i : Nat} (h : nk w i) : nk w (i + 1):=⟨h.1,h.2.1,by have:=h.2.2.1;omega,h.2.2.2⟩
theorem l9 {h : Hub} (hh : an h) {i : Nat} {w : Wld} (r : Reach h i w) : ap w/\(0<=w.step/\w.step<=i)/\nk w i:=by
 induction r with
 | @new n hn=>
   have c : an h/\(1<=n/\n<=4):=by
    by_cases c : an h/\(1<=n/\n<=4)
    ·exact c
    ·have e:=lv c
     rw [e] at hn;exact absurd hn (by simp)
   rw [kj c];have hl : (List.replicate n.toNat (-1 : Int)).length = n.toNat:=List.length_replicate;refine ⟨⟨by simp,hh,?_,by simp,by simp,?_,⟨λs hs=>.inl (by simp),λk hk=>absurd hk (Nat.not_lt_zero _)⟩,⟨[],rfl,λk hk=>absurd hk (Nat.not_lt_zero _)⟩⟩,by simp,?_⟩
   ·show 1<=(List.replicate n.toNat (-1 : Int)).length/\(List.replicate n.toNat (-1 : Int)).length<=4
    omega
   ·unfold fu;simp [aT]
   ·have:=(eH hh).1
    refine ⟨by show cf h<=_;omega,?_,by simp [nL,bQ],by simp,by simp [nL,bQ]⟩
    show (List.replicate n.toNat (-1 : Int)).length<=_
    omega
 | same r ih=>exact ⟨ih.1,by omega,IW ih.2.2⟩
 | step r s ih=>
   have:=HT ih.2.2 s;exact ⟨this.1,by omega,this.2.1⟩
theorem Dw {w : Wld} {c : Call} (h : (ap w/\bm c)/\¬ w.tasks.length = 10/\¬ w.step = 1000000) : e7 w c = (⟨w.h,w.locks,w.queues,w.tasks ++ [dt c w.step],w.step + 1⟩,true):=by unfold e7;rw [if_pos h]
theorem GG {w : Wld} {c : Call} (h : ¬ ((ap w/\bm c)/\¬ w.tasks.length = 10/\¬ w.step = 1000000)) : e7 w c = (Wld.zero,false):=by unfold e7;rw [if_neg h]
theorem nZ (w : Wld) (hl : dD w<=2 ^ 30) (c : Call) (hc : dz c<=2 ^ 30) : aj Tryz.prog 125 [.agg w.row,.agg c.row] (.tup [.agg (e7 w c).1.res,.c (.v (.bool (e7 w c).2)) 1]):=by
 refine pci ae Tryz.func125 (λw0 base=>?_);have hno:=@GG w c;have hyes:=@Dw w c;have hle:=aA (bd hl).2.2.2;simp [Wld.row,Call.row];intro b2 b3 b4;refine aa.pure (jZ w hl) (by simp [Wld.row]) ?_;by_cases c1 : ap w
 rotate_left
 ·simp [ab c1,hno (λh=>c1 h.1.1),Wld.res,Wld.zero,Hub.zero]
 simp [c1];refine aa.pure (iP c (by omega)) (by simp [Call.row]) ?_;by_cases c2 : bm c
 rotate_left
 ·simp [ab c2,hno (λh=>c2 h.1.2),Wld.res,Wld.zero,Hub.zero]
 simp [c2];by_cases c3 : w.tasks.length = 10
 ·have c3' : (w.tasks.length : Int) = 10:=by omega
  simp [c3',hno (λh=>h.2.1 c3),Wld.res,Wld.zero,Hub.zero]
 have c3' : ¬ (w.tasks.length : Int) = 10:=by omega
 simp [c3'];by_cases c4 : w.step = 1000000
 ·simp [c4,hno (λh=>h.2.2 c4),Wld.res,Wld.zero,Hub.zero]
 have hst:=c1.2.2.2.2.1;have ew : Go.IntKind.i64.wrap (w.step + 1) = w.step + 1:=Go.IntWalk.i64_in _ (by omega);have e:=hyes ⟨⟨c1,c2⟩,c3,c4⟩;simp [c4];refine aa.pure (pK w hl) (by simp [Wld.row]) ?_;simp [Wld.res];intro H1 H2 H3 H4 H5 b6;refine drw eok mix [0,1,2,4,5,9] [3,6,7,8,10] (.c 6 3 8 55 (.c 6 6 2 53 (.c 6 7 0 53 (.c 6 8 16 37 (.c 6 10 37 0 (.l 6 0) .s) .s) .s) .s) .s) ?_;simp
 try intros
 refine aa.pure (u3 c hc) (by simp [Call.row]) ?_;simp [Call.res]
 try intros
 refine ⟨by omega,?_⟩;rw [e];simp [ew,dt,Answer.zero,Task.row]
 rintro row (⟨a,-,rfl⟩ | rfl)<;>rfl
set_option maxHeartbeats 51200000
def Rs (p : Wld->Prop) (rr : RR) : Prop:=∃ w : Wld,p w/\rr = .one (.agg w.res)
theorem IG (l : List UInt8) (hl : l.length<=2 ^ 40) (hb : Hub) (hok : an hb) (j : Nat) (hj : j<=2 ^ 20) (a : Wld) (r : Reach hb j a) : ox Tryz.prog 141 (l.map e9) 127 [.agg a.row] (Rs (Reach hb (j + 1))):=by
 refine ox.intro ae Tryz.func127 (by kernel_rfl) rfl rfl rfl (Nat.le_of_ble_eq_true rfl) (λw0 base o b u i h hi0 hi1 hu=>?_);have hi1 : i<=(l.length : Int):=by simpa using hi1
 obtain ⟨wok,-,wt⟩:=l9 hok r;have hn:=sO wt hj;have hhn : cf a.h<=2 ^ 28:=wt.1;simp [Wld.row];intro b3 b4;refine aa.cur (al l hl 12) hu (by simp) rfl hi0 hi1 (by simp) ?_
 rintro _ i1 h1 ⟨z,hz,rfl⟩ g0 g1
 simp;by_cases e0 : a.tasks = []
 ·simp [e0]
  refine bM (λx : {x : Wld × Bool // x.2 = true->stepTo a x.1} × {q : Int // 0<=q/\q<=(l.length : Int)} × Int × Nat=>[(6,.p 96 x.2.2.2 0),(7,.v (.bool x.1.1.2))]) (λx=>[(96,.vars x.2.2.2 39 [.v (.bool x.1.1.1.h.shut),.ro (x.1.1.1.h.docs.map Doc.row),.ro (x.1.1.1.h.subs.map Sub.row),.v (.int .i64 x.1.1.1.h.last),.ro (x.1.1.1.locks.map ak),.ro (x.1.1.1.queues.map Queue.row),.ro (x.1.1.1.tasks.map Task.row),.v (.int .i64 x.1.1.1.step)]),(0,.vars b 141 (cP u l.length x.2.1.1 x.2.2.1))]) [0,3,4,5] ?_ ?_
  ·refine drw eok mix [0,1,2,3] [4,5,6,7,8,9,10,11] (.c 4 4 5 10 (.c 4 5 8 2 (.c 4 6 0 2 (.c 4 7 0 2 (.c 4 8 0 2 (.c 4 9 0 2 (.c 4 10 2 0 (.c 4 11 0 0 (.l 4 0) .s) .s) .s) .s) .s) .s) (.c 4 9 0 10 (.c 4 5 8 2 (.c 4 6 0 2 (.c 4 7 0 2 (.c 4 8 0 2 (.c 4 10 2 0 (.c 4 11 0 0 (.l 4 0) .s) .s) .s) .s) .s) .s) .s)) (.c 4 9 0 15 (.c 4 4 5 10 (.c 4 5 8 2 (.c 4 6 0 2 (.c 4 7 0 2 (.c 4 8 0 2 (.c 4 10 2 0 (.c 4 11 0 0 (.l 4 0) .s) .s) .s) .s) .s) .s) .s) .s)) ?_
   simp
   try intros
   repeat' first
    | (refine bE (pL l hl a.h wok.2.1) hu (by simp) rfl g0 g1 (by simp [Hub.row]) ?_;rintro _ i2 h2 ⟨c,hc,rfl⟩ g0 g1;simp [Call.res];try intros)
    | (have hx : (e7 a c).2 = true->stepTo a (e7 a c).1:=λh=>.come h;have cc:=nZ a hn c (by unfold vm at hc;omega);generalize e7 a c = q at hx cc;obtain ⟨x,okx⟩:=q;simp only at hx cc;refine aa.ro cc (by simp [Wld.row,Call.row,e0]) ?_;simp [Wld.res];try intros)
    | (rw [Trc];refine ⟨?_,?_⟩<;>(try simp)<;>try intros)
   all_goals
    cases okx with
    | false=>exact ⟨x,.inl ⟨_,⟨g0,g1⟩,_,_,⟨rfl,rfl⟩,⟨rfl,rfl,rfl,rfl,rfl,rfl,rfl,rfl,rfl⟩,rfl,rfl⟩⟩
    | true=>exact ⟨x,.inr ⟨hx rfl,_,⟨g0,g1⟩,_,_,⟨rfl,rfl⟩,⟨rfl,rfl,rfl,rfl,rfl,rfl,rfl,rfl,rfl⟩,rfl,rfl⟩⟩
  rintro ⟨⟨⟨x,okx⟩,hx⟩,⟨i2,g0,g1⟩,h2,b6⟩
  simp;simp only at hx g0 g1
  cases okx with
  | true=>
    simp;refine ⟨_,⟨x,.step r (hx rfl),rfl⟩,?_,ai rfl g0 g1⟩;simp [Wld.res]
  | false=>
    simp;by_cases z5 : z < 5
    ·simp [z5]
     by_cases q0 : a.queues = []
     ·simp [q0]
      refine ⟨_,⟨a,.same r,rfl⟩,?_,ai rfl g0 g1⟩;simp [Wld.res,q0,e0]
     have qpos : 0 < a.queues.length:=List.length_pos_iff.2 q0;simp [qpos];refine bM (λx : {x : Wld × Bool // x.2 = true->stepTo a x.1} × {q : Int // 0<=q/\q<=(l.length : Int)} × Int × Nat=>[(8,.p 128 x.2.2.2 0),(9,.v (.bool x.1.1.2))]) (λx=>[(128,.vars x.2.2.2 39 [.v (.bool x.1.1.1.h.shut),.ro (x.1.1.1.h.docs.map Doc.row),.ro (x.1.1.1.h.subs.map Sub.row),.v (.int .i64 x.1.1.1.h.last),.ro (x.1.1.1.locks.map ak),.ro (x.1.1.1.queues.map Queue.row),.ro (x.1.1.1.tasks.map Task.row),.v (.int .i64 x.1.1.1.step)]),(0,.vars b 141 (cP u l.length x.2.1.1 x.2.2.1))]) [0,3,4,5] ?_ ?_
     ·refine drw eok mix [0,1,2,3,4,5,6] [7,8,9,10,11,12,13,14,15,16,17] (.c 7 7 9 118 (.c 7 8 16 102 (.c 7 9 0 102 (.c 7 10 0 102 (.c 7 11 64 38 (.c 7 12 0 38 (.c 7 13 0 38 (.c 7 14 0 38 (.c 7 15 0 38 (.c 7 16 38 0 (.c 7 17 0 0 (.l 7 0) .s) .s) .s) .s) .s) .s) (.c 7 15 0 102 (.c 7 11 64 38 (.c 7 12 0 38 (.c 7 13 0 38 (.c 7 14 0 38 (.c 7 16 38 0 (.c 7 17 0 0 (.l 7 0) .s) .s) .s) .s) .s) .s) .s)) (.c 7 15 0 102 (.c 7 10 0 102 (.c 7 11 64 38 (.c 7 12 0 38 (.c 7 13 0 38 (.c 7 14 0 38 (.c 7 16 38 0 (.c 7 17 0 0 (.l 7 0) .s) .s) .s) .s) .s) .s) .s) .s)) (.c 7 15 0 102 (.c 7 9 0 102 (.c 7 10 0 102 (.c 7 11 64 38 (.c 7 12 0 38 (.c 7 13 0 38 (.c 7 14 0 38 (.c 7 16 38 0 (.c 7 17 0 0 (.l 7 0) .s) .s) .s) .s) .s) .s) .s) .s) .s)) (.c 7 15 0 118 (.c 7 8 16 102 (.c 7 9 0 102 (.c 7 10 0 102 (.c 7 11 64 38 (.c 7 12 0 38 (.c 7 13 0 38 (.c 7 14 0 38 (.c 7 16 38 0 (.c 7 17 0 0 (.l 7 0) .s) .s) .s) .s) .s) .s) .s) .s) .s) .s)) (.c 7 15 0 127 (.c 7 7 9 118 (.c 7 8 16 102 (.c 7 9 0 102 (.c 7 10 0 102 (.c 7 11 64 38 (.c 7 12 0 38 (.c 7 13 0 38 (.c 7 14 0 38 (.c 7 16 38 0 (.c 7 17 0 0 (.l 7 0) .s) .s) .s) .s) .s) .s) .s) .s) .s) .s) .s)) ?_
      simp
      try intros
      repeat' first
       | (refine aa.cur (al l hl a.queues.length) hu (by simp) rfl g0 g1 (by simp) ?_;rintro _ i2 h2 ⟨kk,hkk,rfl⟩ g0 g1;obtain ⟨k,rfl⟩ : ∃ k : Nat,kk = (k : Int):=⟨kk.toNat,by have:=hkk.1;omega⟩;have hk : k < a.queues.length:=(by have:=hkk.2.2 (by omega);omega);obtain ⟨qd,hqd⟩ : ∃ d,a.queues[k] = d:=⟨_,rfl⟩;simp [hk,hqd,Queue.row];try intros)
       | (have hx : (cF a qd.doc).2 = true->stepTo a (cF a qd.doc).1:=λh=>.serve h;have cc:=lX a hn qd.doc;generalize cF a qd.doc = q at hx cc;obtain ⟨x,okx⟩:=q;simp only at hx cc;refine aa.ro cc (by simp [Wld.row,e0]) ?_;simp [Wld.res];try intros)
       | (rw [Trc];refine ⟨?_,?_⟩<;>(first | simp [hk,hqd,Queue.row] | simp | skip)<;>try intros)
      all_goals
       cases okx with
       | false=>exact ⟨x,.inl ⟨_,⟨g0,g1⟩,_,_,⟨rfl,rfl⟩,⟨rfl,rfl,rfl,rfl,rfl,rfl,rfl,rfl,rfl⟩,rfl,rfl⟩⟩
       | true=>exact ⟨x,.inr ⟨hx rfl,_,⟨g0,g1⟩,_,_,⟨rfl,rfl⟩,⟨rfl,rfl,rfl,rfl,rfl,rfl,rfl,rfl,rfl⟩,rfl,rfl⟩⟩
     rintro ⟨⟨⟨x,okx⟩,hx⟩,⟨i2,g0,g1⟩,h2,b6⟩
     simp;simp only at hx g0 g1
     cases okx with
     | true=>
       simp;refine ⟨_,⟨x,.step r (hx rfl),rfl⟩,?_,ai rfl g0 g1⟩;simp [Wld.res]
     | false=>
       simp;refine ⟨_,⟨a,.same r,rfl⟩,?_,ai rfl g0 g1⟩;simp [Wld.res,e0]
    ·simp [z5]
     refine ⟨_,⟨a,.same r,rfl⟩,?_,ai rfl g0 g1⟩;simp [Wld.res,e0]
 simp [e0];by_cases z2 : z < 2
 ·simp [z2]
  refine bM (λx : {x : Wld × Bool // x.2 = true->stepTo a x.1} × {q : Int // 0<=q/\q<=(l.length : Int)} × Int × Nat=>[(6,.p 96 x.2.2.2 0),(7,.v (.bool x.1.1.2))]) (λx=>[(96,.vars x.2.2.2 39 [.v (.bool x.1.1.1.h.shut),.ro (x.1.1.1.h.docs.map Doc.row),.ro (x.1.1.1.h.subs.map Sub.row),.v (.int .i64 x.1.1.1.h.last),.ro (x.1.1.1.locks.map ak),.ro (x.1.1.1.queues.map Queue.row),.ro (x.1.1.1.tasks.map Task.row),.v (.int .i64 x.1.1.1.step)]),(0,.vars b 141 (cP u l.length x.2.1.1 x.2.2.1))]) [0,3,4,5] ?_ ?_
  ·refine drw eok mix [0,1,2,3] [4,5,6,7,8,9,10,11] (.c 4 4 5 10 (.c 4 5 8 2 (.c 4 6 0 2 (.c 4 7 0 2 (.c 4 8 0 2 (.c 4 9 0 2 (.c 4 10 2 0 (.c 4 11 0 0 (.l 4 0) .s) .s) .s) .s) .s) .s) (.c 4 9 0 10 (.c 4 5 8 2 (.c 4 6 0 2 (.c 4 7 0 2 (.c 4 8 0 2 (.c 4 10 2 0 (.c 4 11 0 0 (.l 4 0) .s) .s) .s) .s) .s) .s) .s)) (.c 4 9 0 15 (.c 4 4 5 10 (.c 4 5 8 2 (.c 4 6 0 2 (.c 4 7 0 2 (.c 4 8 0 2 (.c 4 10 2 0 (.c 4 11 0 0 (.l 4 0) .s) .s) .s) .s) .s) .s) .s) .s)) ?_
   simp
   try intros
   repeat' first
    | (refine bE (pL l hl a.h wok.2.1) hu (by simp) rfl g0 g1 (by simp [Hub.row]) ?_;rintro _ i2 h2 ⟨c,hc,rfl⟩ g0 g1;simp [Call.res];try intros)
    | (have hx : (e7 a c).2 = true->stepTo a (e7 a c).1:=λh=>.come h;have cc:=nZ a hn c (by unfold vm at hc;omega);generalize e7 a c = q at hx cc;obtain ⟨x,okx⟩:=q;simp only at hx cc;refine aa.ro cc (by simp [Wld.row,Call.row]) ?_;simp [Wld.res];try intros)
    | (rw [Trc];refine ⟨?_,?_⟩<;>(try simp)<;>try intros)
   all_goals
    cases okx with
    | false=>exact ⟨x,.inl ⟨_,⟨g0,g1⟩,_,_,⟨rfl,rfl⟩,⟨rfl,rfl,rfl,rfl,rfl,rfl,rfl,rfl,rfl⟩,rfl,rfl⟩⟩
    | true=>exact ⟨x,.inr ⟨hx rfl,_,⟨g0,g1⟩,_,_,⟨rfl,rfl⟩,⟨rfl,rfl,rfl,rfl,rfl,rfl,rfl,rfl,rfl⟩,rfl,rfl⟩⟩
  rintro ⟨⟨⟨x,okx⟩,hx⟩,⟨i2,g0,g1⟩,h2,b6⟩
  simp;simp only at hx g0 g1
  cases okx with
  | true=>
    simp;refine ⟨_,⟨x,.step r (hx rfl),rfl⟩,?_,ai rfl g0 g1⟩;simp [Wld.res]
  | false=>
    simp;have z5 : z < 5:=by omega
    simp [z5];by_cases q0 : a.queues = []
    ·simp [q0]
     by_cases t0 : a.tasks = []
     ·simp [t0]
      refine ⟨_,⟨a,.same r,rfl⟩,?_,ai rfl g0 g1⟩;simp [Wld.res,t0,q0]
     have tpos : 0 < a.tasks.length:=List.length_pos_iff.2 t0;simp [t0];refine drw eok mix [0,1,2,3,4] [5,6,7,8,9,10,11,12] (.c 5 5 9 22 (.c 5 6 16 6 (.c 5 7 0 6 (.c 5 8 0 6 (.c 5 9 0 6 (.c 5 10 0 6 (.c 5 11 6 0 (.c 5 12 0 0 (.l 5 0) .s) .s) .s) .s) .s) .s) (.c 5 10 0 22 (.c 5 6 16 6 (.c 5 7 0 6 (.c 5 8 0 6 (.c 5 9 0 6 (.c 5 11 6 0 (.c 5 12 0 0 (.l 5 0) .s) .s) .s) .s) .s) .s) .s)) (.c 5 10 0 31 (.c 5 5 9 22 (.c 5 6 16 6 (.c 5 7 0 6 (.c 5 8 0 6 (.c 5 9 0 6 (.c 5 11 6 0 (.c 5 12 0 0 (.l 5 0) .s) .s) .s) .s) .s) .s) .s) .s)) ?_;simp
     try intros
     repeat' first
      | (refine aa.cur (al l hl a.tasks.length) hu (by simp) rfl g0 g1 (by simp) ?_;rintro _ i2 h2 ⟨kk,hkk,rfl⟩ g0 g1;simp;try intros)
      | (have hx : (cH a kk).2 = true->stepTo a (cH a kk).1:=λh=>.pick h;have cc:=jh a hn kk;generalize cH a kk = q at hx cc;obtain ⟨x,okx⟩:=q;simp only at hx cc;refine aa.ro cc (by simp [Wld.row,q0]) ?_;simp [Wld.res];try intros)
      | (rw [Trc];refine ⟨?_,?_⟩<;>(try simp)<;>try intros)
     all_goals
      cases okx with
      | true=>
        simp;refine ⟨_,⟨x,.step r (hx rfl),rfl⟩,?_,ai rfl g0 g1⟩;simp [Wld.res]
      | false=>
        simp;refine ⟨_,⟨a,.same r,rfl⟩,?_,ai rfl g0 g1⟩;simp [Wld.res,q0]
    have qpos : 0 < a.queues.length:=List.length_pos_iff.2 q0;simp [qpos];refine bM (λx : {x : Wld × Bool // x.2 = true->stepTo a x.1} × {q : Int // 0<=q/\q<=(l.length : Int)} × Int × Nat=>[(8,.p 128 x.2.2.2 0),(9,.v (.bool x.1.1.2))]) (λx=>[(128,.vars x.2.2.2 39 [.v (.bool x.1.1.1.h.shut),.ro (x.1.1.1.h.docs.map Doc.row),.ro (x.1.1.1.h.subs.map Sub.row),.v (.int .i64 x.1.1.1.h.last),.ro (x.1.1.1.locks.map ak),.ro (x.1.1.1.queues.map Queue.row),.ro (x.1.1.1.tasks.map Task.row),.v (.int .i64 x.1.1.1.step)]),(0,.vars b 141 (cP u l.length x.2.1.1 x.2.2.1))]) [0,3,4,5] ?_ ?_
    ·refine drw eok mix [0,1,2,3,4,5,6] [7,8,9,10,11,12,13,14,15,16,17] (.c 7 7 9 118 (.c 7 8 16 102 (.c 7 9 0 102 (.c 7 10 0 102 (.c 7 11 64 38 (.c 7 12 0 38 (.c 7 13 0 38 (.c 7 14 0 38 (.c 7 15 0 38 (.c 7 16 38 0 (.c 7 17 0 0 (.l 7 0) .s) .s) .s) .s) .s) .s) (.c 7 15 0 102 (.c 7 11 64 38 (.c 7 12 0 38 (.c 7 13 0 38 (.c 7 14 0 38 (.c 7 16 38 0 (.c 7 17 0 0 (.l 7 0) .s) .s) .s) .s) .s) .s) .s)) (.c 7 15 0 102 (.c 7 10 0 102 (.c 7 11 64 38 (.c 7 12 0 38 (.c 7 13 0 38 (.c 7 14 0 38 (.c 7 16 38 0 (.c 7 17 0 0 (.l 7 0) .s) .s) .s) .s) .s) .s) .s) .s)) (.c 7 15 0 102 (.c 7 9 0 102 (.c 7 10 0 102 (.c 7 11 64 38 (.c 7 12 0 38 (.c 7 13 0 38 (.c 7 14 0 38 (.c 7 16 38 0 (.c 7 17 0 0 (.l 7 0) .s) .s) .s) .s) .s) .s) .s) .s) .s)) (.c 7 15 0 118 (.c 7 8 16 102 (.c 7 9 0 102 (.c 7 10 0 102 (.c 7 11 64 38 (.c 7 12 0 38 (.c 7 13 0 38 (.c 7 14 0 38 (.c 7 16 38 0 (.c 7 17 0 0 (.l 7 0) .s) .s) .s) .s) .s) .s) .s) .s) .s) .s)) (.c 7 15 0 127 (.c 7 7 9 118 (.c 7 8 16 102 (.c 7 9 0 102 (.c 7 10 0 102 (.c 7 11 64 38 (.c 7 12 0 38 (.c 7 13 0 38 (.c 7 14 0 38 (.c 7 16 38 0 (.c 7 17 0 0 (.l 7 0) .s) .s) .s) .s) .s) .s) .s) .s) .s) .s) .s)) ?_
     simp
     try intros
     repeat' first
      | (refine aa.cur (al l hl a.queues.length) hu (by simp) rfl g0 g1 (by simp) ?_;rintro _ i2 h2 ⟨kk,hkk,rfl⟩ g0 g1;obtain ⟨k,rfl⟩ : ∃ k : Nat,kk = (k : Int):=⟨kk.toNat,by have:=hkk.1;omega⟩;have hk : k < a.queues.length:=(by have:=hkk.2.2 (by omega);omega);obtain ⟨qd,hqd⟩ : ∃ d,a.queues[k] = d:=⟨_,rfl⟩;simp [hk,hqd,Queue.row];try intros)
      | (have hx : (cF a qd.doc).2 = true->stepTo a (cF a qd.doc).1:=λh=>.serve h;have cc:=lX a hn qd.doc;generalize cF a qd.doc = q at hx cc;obtain ⟨x,okx⟩:=q;simp only at hx cc;refine aa.ro cc (by simp [Wld.row]) ?_;simp [Wld.res];try intros)
      | (rw [Trc];refine ⟨?_,?_⟩<;>(first | simp [hk,hqd,Queue.row] | simp | skip)<;>try intros)
     all_goals
      cases okx with
      | false=>exact ⟨x,.inl ⟨_,⟨g0,g1⟩,_,_,⟨rfl,rfl⟩,⟨rfl,rfl,rfl,rfl,rfl,rfl,rfl,rfl,rfl⟩,rfl,rfl⟩⟩
      | true=>exact ⟨x,.inr ⟨hx rfl,_,⟨g0,g1⟩,_,_,⟨rfl,rfl⟩,⟨rfl,rfl,rfl,rfl,rfl,rfl,rfl,rfl,rfl⟩,rfl,rfl⟩⟩
    rintro ⟨⟨⟨x,okx⟩,hx⟩,⟨i2,g0,g1⟩,h2,b6⟩
    simp;simp only at hx g0 g1
    cases okx with
    | true=>
      simp;refine ⟨_,⟨x,.step r (hx rfl),rfl⟩,?_,ai rfl g0 g1⟩;simp [Wld.res]
    | false=>
      simp;by_cases t0 : a.tasks = []
      ·simp [t0]
       refine ⟨_,⟨a,.same r,rfl⟩,?_,ai rfl g0 g1⟩;simp [Wld.res,t0]
      have tpos : 0 < a.tasks.length:=List.length_pos_iff.2 t0;simp [t0];refine drw eok mix [0,1,2,3,4] [5,6,7,8,9,10,11,12] (.c 5 5 9 22 (.c 5 6 16 6 (.c 5 7 0 6 (.c 5 8 0 6 (.c 5 9 0 6 (.c 5 10 0 6 (.c 5 11 6 0 (.c 5 12 0 0 (.l 5 0) .s) .s) .s) .s) .s) .s) (.c 5 10 0 22 (.c 5 6 16 6 (.c 5 7 0 6 (.c 5 8 0 6 (.c 5 9 0 6 (.c 5 11 6 0 (.c 5 12 0 0 (.l 5 0) .s) .s) .s) .s) .s) .s) .s)) (.c 5 10 0 31 (.c 5 5 9 22 (.c 5 6 16 6 (.c 5 7 0 6 (.c 5 8 0 6 (.c 5 9 0 6 (.c 5 11 6 0 (.c 5 12 0 0 (.l 5 0) .s) .s) .s) .s) .s) .s) .s) .s)) ?_;simp
      try intros
      repeat' first
       | (refine aa.cur (al l hl a.tasks.length) hu (by simp) rfl g0 g1 (by simp) ?_;rintro _ i2 h2 ⟨kk,hkk,rfl⟩ g0 g1;simp;try intros)
       | (have hx : (cH a kk).2 = true->stepTo a (cH a kk).1:=λh=>.pick h;have cc:=jh a hn kk;generalize cH a kk = q at hx cc;obtain ⟨x,okx⟩:=q;simp only at hx cc;refine aa.ro cc (by simp [Wld.row]) ?_;simp [Wld.res];try intros)
       | (rw [Trc];refine ⟨?_,?_⟩<;>(try simp)<;>try intros)
      all_goals
       cases okx with
       | true=>
         simp;refine ⟨_,⟨x,.step r (hx rfl),rfl⟩,?_,ai rfl g0 g1⟩;simp [Wld.res]
       | false=>
         simp;refine ⟨_,⟨a,.same r,rfl⟩,?_,ai rfl g0 g1⟩;simp [Wld.res]
 simp [z2];by_cases z5 : z < 5
 ·simp [z5]
  by_cases q0 : a.queues = []
  ·simp [q0]
   by_cases t0 : a.tasks = []
   ·simp [t0]
    refine ⟨_,⟨a,.same r,rfl⟩,?_,ai rfl g0 g1⟩;simp [Wld.res,t0,q0]
   have tpos : 0 < a.tasks.length:=List.length_pos_iff.2 t0;simp [t0];refine drw eok mix [0,1,2,3,4] [5,6,7,8,9,10,11,12] (.c 5 5 9 22 (.c 5 6 16 6 (.c 5 7 0 6 (.c 5 8 0 6 (.c 5 9 0 6 (.c 5 10 0 6 (.c 5 11 6 0 (.c 5 12 0 0 (.l 5 0) .s) .s) .s) .s) .s) .s) (.c 5 10 0 22 (.c 5 6 16 6 (.c 5 7 0 6 (.c 5 8 0 6 (.c 5 9 0 6 (.c 5 11 6 0 (.c 5 12 0 0 (.l 5 0) .s) .s) .s) .s) .s) .s) .s)) (.c 5 10 0 31 (.c 5 5 9 22 (.c 5 6 16 6 (.c 5 7 0 6 (.c 5 8 0 6 (.c 5 9 0 6 (.c 5 11 6 0 (.c 5 12 0 0 (.l 5 0) .s) .s) .s) .s) .s) .s) .s) .s)) ?_;simp
   try intros
   repeat' first
    | (refine aa.cur (al l hl a.tasks.length) hu (by simp) rfl g0 g1 (by simp) ?_;rintro _ i2 h2 ⟨kk,hkk,rfl⟩ g0 g1;simp;try intros)
    | (have hx : (cH a kk).2 = true->stepTo a (cH a kk).1:=λh=>.pick h;have cc:=jh a hn kk;generalize cH a kk = q at hx cc;obtain ⟨x,okx⟩:=q;simp only at hx cc;refine aa.ro cc (by simp [Wld.row,q0]) ?_;simp [Wld.res];try intros)
    | (rw [Trc];refine ⟨?_,?_⟩<;>(try simp)<;>try intros)
   all_goals
    cases okx with
    | true=>
      simp;refine ⟨_,⟨x,.step r (hx rfl),rfl⟩,?_,ai rfl g0 g1⟩;simp [Wld.res]
    | false=>
      simp;refine ⟨_,⟨a,.same r,rfl⟩,?_,ai rfl g0 g1⟩;simp [Wld.res,q0]
  have qpos : 0 < a.queues.length:=List.length_pos_iff.2 q0;simp [qpos];refine bM (λx : {x : Wld × Bool // x.2 = true->stepTo a x.1} × {q : Int // 0<=q/\q<=(l.length : Int)} × Int × Nat=>[(8,.p 128 x.2.2.2 0),(9,.v (.bool x.1.1.2))]) (λx=>[(128,.vars x.2.2.2 39 [.v (.bool x.1.1.1.h.shut),.ro (x.1.1.1.h.docs.map Doc.row),.ro (x.1.1.1.h.subs.map Sub.row),.v (.int .i64 x.1.1.1.h.last),.ro (x.1.1.1.locks.map ak),.ro (x.1.1.1.queues.map Queue.row),.ro (x.1.1.1.tasks.map Task.row),.v (.int .i64 x.1.1.1.step)]),(0,.vars b 141 (cP u l.length x.2.1.1 x.2.2.1))]) [0,3,4,5] ?_ ?_
  ·refine drw eok mix [0,1,2,3,4,5,6] [7,8,9,10,11,12,13,14,15,16,17] (.c 7 7 9 118 (.c 7 8 16 102 (.c 7 9 0 102 (.c 7 10 0 102 (.c 7 11 64 38 (.c 7 12 0 38 (.c 7 13 0 38 (.c 7 14 0 38 (.c 7 15 0 38 (.c 7 16 38 0 (.c 7 17 0 0 (.l 7 0) .s) .s) .s) .s) .s) .s) (.c 7 15 0 102 (.c 7 11 64 38 (.c 7 12 0 38 (.c 7 13 0 38 (.c 7 14 0 38 (.c 7 16 38 0 (.c 7 17 0 0 (.l 7 0) .s) .s) .s) .s) .s) .s) .s)) (.c 7 15 0 102 (.c 7 10 0 102 (.c 7 11 64 38 (.c 7 12 0 38 (.c 7 13 0 38 (.c 7 14 0 38 (.c 7 16 38 0 (.c 7 17 0 0 (.l 7 0) .s) .s) .s) .s) .s) .s) .s) .s)) (.c 7 15 0 102 (.c 7 9 0 102 (.c 7 10 0 102 (.c 7 11 64 38 (.c 7 12 0 38 (.c 7 13 0 38 (.c 7 14 0 38 (.c 7 16 38 0 (.c 7 17 0 0 (.l 7 0) .s) .s) .s) .s) .s) .s) .s) .s) .s)) (.c 7 15 0 118 (.c 7 8 16 102 (.c 7 9 0 102 (.c 7 10 0 102 (.c 7 11 64 38 (.c 7 12 0 38 (.c 7 13 0 38 (.c 7 14 0 38 (.c 7 16 38 0 (.c 7 17 0 0 (.l 7 0) .s) .s) .s) .s) .s) .s) .s) .s) .s) .s)) (.c 7 15 0 127 (.c 7 7 9 118 (.c 7 8 16 102 (.c 7 9 0 102 (.c 7 10 0 102 (.c 7 11 64 38 (.c 7 12 0 38 (.c 7 13 0 38 (.c 7 14 0 38 (.c 7 16 38 0 (.c 7 17 0 0 (.l 7 0) .s) .s) .s) .s) .s) .s) .s) .s) .s) .s) .s)) ?_
   simp
   try intros
   repeat' first
    | (refine aa.cur (al l hl a.queues.length) hu (by simp) rfl g0 g1 (by simp) ?_;rintro _ i2 h2 ⟨kk,hkk,rfl⟩ g0 g1;obtain ⟨k,rfl⟩ : ∃ k : Nat,kk = (k : Int):=⟨kk.toNat,by have:=hkk.1;omega⟩;have hk : k < a.queues.length:=(by have:=hkk.2.2 (by omega);omega);obtain ⟨qd,hqd⟩ : ∃ d,a.queues[k] = d:=⟨_,rfl⟩;simp [hk,hqd,Queue.row];try intros)
    | (have hx : (cF a qd.doc).2 = true->stepTo a (cF a qd.doc).1:=λh=>.serve h;have cc:=lX a hn qd.doc;generalize cF a qd.doc = q at hx cc;obtain ⟨x,okx⟩:=q;simp only at hx cc;refine aa.ro cc (by simp [Wld.row]) ?_;simp [Wld.res];try intros)
    | (rw [Trc];refine ⟨?_,?_⟩<;>(first | simp [hk,hqd,Queue.row] | simp | skip)<;>try intros)
   all_goals
    cases okx with
    | false=>exact ⟨x,.inl ⟨_,⟨g0,g1⟩,_,_,⟨rfl,rfl⟩,⟨rfl,rfl,rfl,rfl,rfl,rfl,rfl,rfl,rfl⟩,rfl,rfl⟩⟩
    | true=>exact ⟨x,.inr ⟨hx rfl,_,⟨g0,g1⟩,_,_,⟨rfl,rfl⟩,⟨rfl,rfl,rfl,rfl,rfl,rfl,rfl,rfl,rfl⟩,rfl,rfl⟩⟩
  rintro ⟨⟨⟨x,okx⟩,hx⟩,⟨i2,g0,g1⟩,h2,b6⟩
  simp;simp only at hx g0 g1
  cases okx with
  | true=>
    simp;refine ⟨_,⟨x,.step r (hx rfl),rfl⟩,?_,ai rfl g0 g1⟩;simp [Wld.res]
  | false=>
    simp;by_cases t0 : a.tasks = []
    ·simp [t0]
     refine ⟨_,⟨a,.same r,rfl⟩,?_,ai rfl g0 g1⟩;simp [Wld.res,t0]
    have tpos : 0 < a.tasks.length:=List.length_pos_iff.2 t0;simp [t0];refine drw eok mix [0,1,2,3,4] [5,6,7,8,9,10,11,12] (.c 5 5 9 22 (.c 5 6 16 6 (.c 5 7 0 6 (.c 5 8 0 6 (.c 5 9 0 6 (.c 5 10 0 6 (.c 5 11 6 0 (.c 5 12 0 0 (.l 5 0) .s) .s) .s) .s) .s) .s) (.c 5 10 0 22 (.c 5 6 16 6 (.c 5 7 0 6 (.c 5 8 0 6 (.c 5 9 0 6 (.c 5 11 6 0 (.c 5 12 0 0 (.l 5 0) .s) .s) .s) .s) .s) .s) .s)) (.c 5 10 0 31 (.c 5 5 9 22 (.c 5 6 16 6 (.c 5 7 0 6 (.c 5 8 0 6 (.c 5 9 0 6 (.c 5 11 6 0 (.c 5 12 0 0 (.l 5 0) .s) .s) .s) .s) .s) .s) .s) .s)) ?_;simp
    try intros
    repeat' first
     | (refine aa.cur (al l hl a.tasks.length) hu (by simp) rfl g0 g1 (by simp) ?_;rintro _ i2 h2 ⟨kk,hkk,rfl⟩ g0 g1;simp;try intros)
     | (have hx : (cH a kk).2 = true->stepTo a (cH a kk).1:=λh=>.pick h;have cc:=jh a hn kk;generalize cH a kk = q at hx cc;obtain ⟨x,okx⟩:=q;simp only at hx cc;refine aa.ro cc (by simp [Wld.row]) ?_;simp [Wld.res];try intros)
     | (rw [Trc];refine ⟨?_,?_⟩<;>(try simp)<;>try intros)
    all_goals
     cases okx with
     | true=>
       simp;refine ⟨_,⟨x,.step r (hx rfl),rfl⟩,?_,ai rfl g0 g1⟩;simp [Wld.res]
     | false=>
       simp;refine ⟨_,⟨a,.same r,rfl⟩,?_,ai rfl g0 g1⟩;simp [Wld.res]
 ·simp [z5]
  by_cases t0 : a.tasks = []
  ·simp [t0]
   refine ⟨_,⟨a,.same r,rfl⟩,?_,ai rfl g0 g1⟩;simp [Wld.res,t0]
  have tpos : 0 < a.tasks.length:=List.length_pos_iff.2 t0;simp [t0];refine drw eok mix [0,1,2,3,4] [5,6,7,8,9,10,11,12] (.c 5 5 9 22 (.c 5 6 16 6 (.c 5 7 0 6 (.c 5 8 0 6 (.c 5 9 0 6 (.c 5 10 0 6 (.c 5 11 6 0 (.c 5 12 0 0 (.l 5 0) .s) .s) .s) .s) .s) .s) (.c 5 10 0 22 (.c 5 6 16 6 (.c 5 7 0 6 (.c 5 8 0 6 (.c 5 9 0 6 (.c 5 11 6 0 (.c 5 12 0 0 (.l 5 0) .s) .s) .s) .s) .s) .s) .s)) (.c 5 10 0 31 (.c 5 5 9 22 (.c 5 6 16 6 (.c 5 7 0 6 (.c 5 8 0 6 (.c 5 9 0 6 (.c 5 11 6 0 (.c 5 12 0 0 (.l 5 0) .s) .s) .s) .s) .s) .s) .s) .s)) ?_;simp
  try intros
  repeat' first
   | (refine aa.cur (al l hl a.tasks.length) hu (by simp) rfl g0 g1 (by simp) ?_;rintro _ i2 h2 ⟨kk,hkk,rfl⟩ g0 g1;simp;try intros)
   | (have hx : (cH a kk).2 = true->stepTo a (cH a kk).1:=λh=>.pick h;have cc:=jh a hn kk;generalize cH a kk = q at hx cc;obtain ⟨x,okx⟩:=q;simp only at hx cc;refine aa.ro cc (by simp [Wld.row]) ?_;simp [Wld.res];try intros)
   | (rw [Trc];refine ⟨?_,?_⟩<;>(try simp)<;>try intros)
  all_goals
   cases okx with
   | true=>
     simp;refine ⟨_,⟨x,.step r (hx rfl),rfl⟩,?_,ai rfl g0 g1⟩;simp [Wld.res]
   | false=>
     simp;refine ⟨_,⟨a,.same r,rfl⟩,?_,ai rfl g0 g1⟩;simp [Wld.res]
theorem yg (l : List UInt8) (hl : l.length<=2 ^ 40) : eM Tryz.prog 38 [.c (.s (l.map e9))] (λrr=>∃ h w,an h/\Reach h 40 w/\rr = .tup [.agg h.res,.agg w.res]):=by
 refine xo ae Tryz.func38 (by kernel_rfl) rfl rfl rfl (Nat.le_of_ble_eq_true rfl) (λw0 base o u hu=>?_);simp;intro b2 b3;refine Bh (F0 l hl) hu (by simp) (λb h=>?_);simp;refine bE (C1 l hl 6 (by omega) (by omega)) hu (by simp) rfl (by omega) (by omega) (by simp) ?_
 rintro _ i1 h1 ⟨hb,hok,rfl⟩ g0 g1
 simp [Hub.res];intro b5;have hn : cf hb<=2 ^ 28:=Nat.le_trans (eH hok).1 (by decide);refine bM (λx : {x : Wld // Reach hb 0 x} × {q : Int // 0<=q/\q<=(l.length : Int)} × Int × Nat=>[(6,.p 96 x.2.2.2 0)]) (λx=>[(96,.vars x.2.2.2 39 [.v (.bool x.1.1.h.shut),.ro (x.1.1.h.docs.map Doc.row),.ro (x.1.1.h.subs.map Sub.row),.v (.int .i64 x.1.1.h.last),.ro (x.1.1.locks.map ak),.ro (x.1.1.queues.map Queue.row),.ro (x.1.1.tasks.map Task.row),.v (.int .i64 x.1.1.step)]),(208,.vars b 141 (cP u l.length x.2.1.1 x.2.2.1))]) [0,2,3,4,5] ?_ ?_
 ·refine drw eok mix [0,1] [2,3,4,5,6,7,8,9,10] (.c 2 2 1 2 (.c 2 3 0 2 (.c 2 4 2 0 (.c 2 5 0 0 (.c 2 6 0 0 (.c 2 7 0 0 (.c 2 8 0 0 (.c 2 9 0 0 (.c 2 10 0 0 (.l 2 0) .s) .s) .s) .s) .s) .s) (.c 2 8 0 2 (.c 2 4 2 0 (.c 2 5 0 0 (.c 2 6 0 0 (.c 2 7 0 0 (.c 2 9 0 0 (.c 2 10 0 0 (.l 2 0) .s) .s) .s) .s) .s) .s) .s)) (.c 2 8 0 2 (.c 2 3 0 2 (.c 2 4 2 0 (.c 2 5 0 0 (.c 2 6 0 0 (.c 2 7 0 0 (.c 2 9 0 0 (.c 2 10 0 0 (.l 2 0) .s) .s) .s) .s) .s) .s) .s) .s)) (.c 2 8 0 3 (.c 2 2 1 2 (.c 2 3 0 2 (.c 2 4 2 0 (.c 2 5 0 0 (.c 2 6 0 0 (.c 2 7 0 0 (.c 2 9 0 0 (.c 2 10 0 0 (.l 2 0) .s) .s) .s) .s) .s) .s) .s) .s) .s)) ?_
  simp
  try intros
  repeat' first
   | (refine aa.cur (al l hl 4) hu (by simp) rfl g0 g1 (by simp) ?_;rintro _ i2 h2 ⟨y,hy,rfl⟩ g0 g1;have wy:=Go.IntWalk.i64_in (1 + y) (by have:=hy.1;have:=hy.2.2 (by omega);omega);simp;try intros)
   | (have hx : Reach hb 0 (eQ hb (1 + y)).1:=.new (by rw [kj ⟨hok,by have:=hy.1;have:=hy.2.2 (by omega);omega⟩]);have cc:=rR hb (by omega) (1 + y);generalize eQ hb (1 + y) = q at hx cc;obtain ⟨x,okx⟩:=q;simp only at hx cc;refine aa.ro cc (by simp [Hub.row,wy]) ?_;simp [Wld.res];try intros)
   | (rw [Trc];refine ⟨?_,?_⟩<;>(try simp)<;>try intros)
  all_goals
   exact ⟨x,hx,⟨g0,g1⟩,rfl,rfl,rfl,rfl,rfl,rfl,rfl,rfl⟩
 rintro ⟨⟨x,hx⟩,⟨i2,g0,g1⟩,h2,b6⟩
 simp [Wld.res]
 try simp only at hx g0 g1
 refine aa.cur (al l hl 6) hu (by simp) rfl g0 g1 (by simp) ?_
 rintro _ i5 h5 ⟨zn,hzn,rfl⟩ g0 g1
 simp;have hzn':=hzn.2.2 (by omega)
 refine ag eok (λx : Wld × Nat × Int × Int=>x.2.1<=5/\Reach hb (5 - x.2.1) x.1/\0<=x.2.2.1/\x.2.2.1<=(l.length : Int))
  (λx=>⟨51,0,[(8,.v (.int .i64 x.2.1)),(6,.p 96 b6 0),(5,.p 80 b5 0),(4,.p 208 b 0),(3,.p 48 b3 0),(2,.p 32 b2 0)],
   (96,.vars b6 39 [.v (.bool x.1.h.shut),.ro (x.1.h.docs.map Doc.row),.ro (x.1.h.subs.map Sub.row),.v (.int .i64 x.1.h.last),.ro (x.1.locks.map ak),.ro (x.1.queues.map Queue.row),.ro (x.1.tasks.map Task.row),.v (.int .i64 x.1.step)]) :: (80,.vars b5 35 [.v (.bool hb.shut),.ro (hb.docs.map Doc.row),.ro (hb.subs.map Sub.row),.v (.int .i64 hb.last)]) :: (208,.vars b 141 (cP u l.length x.2.2.1 x.2.2.2)) :: (48,.vars b3 39 [.v (.bool false),.nil,.nil,.v (.int .i64 0),.nil,.nil,.nil,.v (.int .i64 0)]) :: (32,.vars b2 35 [.v (.bool false),.nil,.nil,.v (.int .i64 0)]) :: phs o⟩) (λx=>x.2.1)
  (x,zn.toNat,i5,h5) ⟨by simp only;omega,jo hx (by simp only;omega),g0,g1⟩ (by simp;have:=hzn.1;omega) (λx hx=>Ent.refl ?_)
 obtain ⟨a,n,i6,h6⟩:=x;obtain ⟨x1,x2,g0,g1⟩:=hx;simp only at x1 x2 g0 g1 ⊢;simp;by_cases c : 0 < n
 ·have c' : (0 : Int) < n:=by omega
  simp [c];obtain ⟨wok,-,wt⟩:=l9 hok x2;have hwn:=sO wt (by omega);have wn:=Go.IntWalk.i64_in ((n : Int) - 1) (by omega);refine bM (λx : {x : Wld × Bool // x.2 = true->stepTo a x.1} × {q : Int // 0<=q/\q<=(l.length : Int)} × Int × Nat=>[(9,.p 144 x.2.2.2 0),(10,.v (.bool x.1.1.2))]) (λx=>[(144,.vars x.2.2.2 39 [.v (.bool x.1.1.1.h.shut),.ro (x.1.1.1.h.docs.map Doc.row),.ro (x.1.1.1.h.subs.map Sub.row),.v (.int .i64 x.1.1.1.h.last),.ro (x.1.1.1.locks.map ak),.ro (x.1.1.1.queues.map Queue.row),.ro (x.1.1.1.tasks.map Task.row),.v (.int .i64 x.1.1.1.step)]),(208,.vars b 141 (cP u l.length x.2.1.1 x.2.2.1))]) [2,3,4,5,6,8] ?_ ?_
  ·refine drw eok mix [0,1,2] [3,4,5,6,7,8,9,10] (.c 3 3 3 4 (.c 3 4 4 0 (.c 3 5 0 0 (.c 3 6 0 0 (.c 3 7 0 0 (.c 3 8 0 0 (.c 3 9 0 0 (.c 3 10 0 0 (.l 3 0) .s) .s) .s) .s) .s) .s) (.c 3 8 0 4 (.c 3 4 4 0 (.c 3 5 0 0 (.c 3 6 0 0 (.c 3 7 0 0 (.c 3 9 0 0 (.c 3 10 0 0 (.l 3 0) .s) .s) .s) .s) .s) .s) .s)) (.c 3 8 0 7 (.c 3 3 3 4 (.c 3 4 4 0 (.c 3 5 0 0 (.c 3 6 0 0 (.c 3 7 0 0 (.c 3 9 0 0 (.c 3 10 0 0 (.l 3 0) .s) .s) .s) .s) .s) .s) .s) .s)) ?_
   simp
   try intros
   repeat' first
    | (refine bE (pL l hl hb hok) hu (by simp) rfl g0 g1 (by simp [Hub.row]) ?_;rintro _ i2 h2 ⟨c,hc,rfl⟩ g0 g1;simp [Call.res];try intros)
    | (have hx : (e7 a c).2 = true->stepTo a (e7 a c).1:=λh=>.come h;have cc:=nZ a hwn c (by unfold vm at hc;omega);generalize e7 a c = q at hx cc;obtain ⟨x,okx⟩:=q;simp only at hx cc;refine aa.ro cc (by simp [Wld.row,Call.row]) ?_;simp [Wld.res];try intros)
    | (rw [Trc];refine ⟨?_,?_⟩<;>(try simp)<;>try intros)
   all_goals
    cases okx with
    | false=>exact ⟨x,.inl ⟨_,⟨g0,g1⟩,_,_,⟨rfl,rfl⟩,⟨rfl,rfl,rfl,rfl,rfl,rfl,rfl,rfl,rfl⟩,rfl,rfl⟩⟩
    | true=>exact ⟨x,.inr ⟨hx rfl,_,⟨g0,g1⟩,_,_,⟨rfl,rfl⟩,⟨rfl,rfl,rfl,rfl,rfl,rfl,rfl,rfl,rfl⟩,rfl,rfl⟩⟩
  rintro ⟨⟨⟨x,okx⟩,hx⟩,⟨i2,g0,g1⟩,h2,b9⟩
  simp
  try simp only at hx g0 g1
  cases okx with
  | false=>
    simp;refine Ent.refl ⟨a,n - 1,_,⟨by omega,jo x2 (by omega),g0,g1⟩,by omega,?_⟩;simp [wn];omega
  | true=>
    simp;refine Ent.refl ⟨x,n - 1,_,⟨by omega,jo (Reach.step x2 (hx rfl)) (by omega),g0,g1⟩,by omega,?_⟩;simp [wn];omega
 have : n = 0:=by omega
 subst this;simp;refine aa.cur (al l hl 30) hu (by simp) rfl g0 g1 (by simp) ?_
 rintro _ i7 h7 ⟨zm,hzm,rfl⟩ g0 g1
 simp;have hzm':=hzm.2.2 (by omega)
 refine ag eok (λx : Wld × Nat × Int × Int=>x.2.1<=29/\Reach hb (34 - x.2.1) x.1/\0<=x.2.2.1/\x.2.2.1<=(l.length : Int))
  (λx=>⟨51,0,[(11,.v (.int .i64 x.2.1)),(6,.p 96 b6 0),(5,.p 80 b5 0),(4,.p 208 b 0),(3,.p 48 b3 0),(2,.p 32 b2 0)],
   (96,.vars b6 39 [.v (.bool x.1.h.shut),.ro (x.1.h.docs.map Doc.row),.ro (x.1.h.subs.map Sub.row),.v (.int .i64 x.1.h.last),.ro (x.1.locks.map ak),.ro (x.1.queues.map Queue.row),.ro (x.1.tasks.map Task.row),.v (.int .i64 x.1.step)]) :: (80,.vars b5 35 [.v (.bool hb.shut),.ro (hb.docs.map Doc.row),.ro (hb.subs.map Sub.row),.v (.int .i64 hb.last)]) :: (208,.vars b 141 (cP u l.length x.2.2.1 x.2.2.2)) :: (48,.vars b3 39 [.v (.bool false),.nil,.nil,.v (.int .i64 0),.nil,.nil,.nil,.v (.int .i64 0)]) :: (32,.vars b2 35 [.v (.bool false),.nil,.nil,.v (.int .i64 0)]) :: phs o⟩) (λx=>x.2.1)
  (a,zm.toNat,i7,h7) ⟨by simp only;omega,jo x2 (by simp only;omega),g0,g1⟩ (by simp;have:=hzm.1;omega) (λx hx=>Ent.refl ?_)
 obtain ⟨a,n,i6,h6⟩:=x;obtain ⟨x1,x2,g0,g1⟩:=hx;simp only at x1 x2 g0 g1 ⊢;simp;by_cases c : 0 < n
 ·have c' : (0 : Int) < n:=by omega
  simp [c];have wn:=Go.IntWalk.i64_in ((n : Int) - 1) (by omega);refine bE (IG l hl hb hok (34 - n) (by omega) a x2) hu (by simp) rfl g0 g1 (by simp [Wld.row]) ?_
  rintro _ i8 h8 ⟨x,hx,rfl⟩ g0 g1
  simp [Wld.res];refine Ent.refl ⟨x,n - 1,_,⟨by omega,jo hx (by omega),g0,g1⟩,by omega,?_⟩;simp [wn];omega
 have : n = 0:=by omega
 subst this;simp;refine drw eok mix [0,1] [2,3] (.c 2 2 2 1 (.c 2 3 1 0 (.l 2 0) .s) .s) ?_;simp
 try intros
 refine ⟨_,⟨hb,hok,a,jo x2 (by omega),rfl⟩,?_⟩;simp
set_option maxHeartbeats 3200000
theorem jr (w : Wld) (hl : dD w<=2 ^ 30) : aj Tryz.prog 43 [.agg w.row] (.one (.c (vi (er w)) 1)):=by
 refine pci ae Tryz.func43 (λw0 base=>?_);have hlq:=aA (bd hl).2.2.2;simp [Wld.row];intro b1;refine aa.pure (d8 w hl) (by simp [Wld.row]) ?_;unfold er;by_cases c1 : ap w
 rotate_left
 ·simp [c1]
 rw [if_pos c1];have hpc:=c1.1;simp [c1];refine ag eok (λi : Nat=>i<=w.tasks.length) (λi=>⟨50,0,[(13,.v (.int .i64 i)),(12,.v (.int .i64 w.tasks.length)),(11,.ro (w.tasks.map Task.row)),(3,.v (.int .i64 (gD (w.tasks.take i))))],[]⟩) (λi=>w.tasks.length - i) 0 (by simp) (by simp [gD]) (λi hi=>Ent.refl ?_);by_cases hlt : i < w.tasks.length
 ·have hs:=u1 hlt
  have hb:=v6 (w.tasks.take i);have hp:=(hpc _ (List.getElem_mem hlt)).2.2.1;obtain ⟨t,ht⟩ : ∃ t,w.tasks[i] = t:=⟨_,rfl⟩;rw [ht] at hs hp;rw [List.length_take] at hb;obtain ⟨q,hq⟩ : ∃ q,gD (w.tasks.take i) = q:=⟨_,rfl⟩;rw [hq] at hs hb;have w1 : Go.IntKind.i64.wrap (q + 1) = q + 1:=Go.IntWalk.i64_in _ (by omega);have w2 : Go.IntKind.i64.wrap (q + 2) = q + 2:=Go.IntWalk.i64_in _ (by omega);have w3 : Go.IntKind.i64.wrap (q + 3) = q + 3:=Go.IntWalk.i64_in _ (by omega);have w4 : Go.IntKind.i64.wrap (q + 4) = q + 4:=Go.IntWalk.i64_in _ (by omega);have v1 : Go.IntKind.i64.wrap 1 = 1:=Go.IntWalk.i64_in _ (by omega);have v2 : Go.IntKind.i64.wrap 2 = 2:=Go.IntWalk.i64_in _ (by omega);have v3 : Go.IntKind.i64.wrap 3 = 3:=Go.IntWalk.i64_in _ (by omega);have ei : Go.IntKind.i64.wrap ((i : Int) + 1) = ((i + 1 : Nat) : Int):=ah (by omega)
  have hpc5 : t.pc = 0\/t.pc = 1\/t.pc = 2\/t.pc = 3\/t.pc = 4:=by omega
  simp [hlt,ht,hq,Task.row];intro b5;unfold eo at hs;by_cases k2 : t.c.kind = 2
  ·simp [k2]
   rcases hpc5 with p | p | p | p | p
   all_goals
    simp [p,k2] at hs;simp [p,w1,w2,w3,w4,v3];exact Ent.refl ⟨i + 1,by omega,by omega,by simp [hs,ei]⟩
  simp [k2];refine aa.pure (aO t.c.kind) (by simp) ?_;by_cases k3 : aK t.c.kind
  ·simp [k3]
   rcases hpc5 with p | p | p | p | p
   all_goals
    simp [p,k2,k3] at hs;simp [p,w1,w2,w3,v2];exact Ent.refl ⟨i + 1,by omega,by omega,by simp [hs,ei]⟩
  simp [ab k3];rcases hpc5 with p | p | p | p | p
  all_goals
   simp [p,k2,k3] at hs;simp [p,w1,w2,v1];exact Ent.refl ⟨i + 1,by omega,by omega,by simp [hs,ei]⟩
 ·have e : i = w.tasks.length:=by omega
  subst e;simp
set_option maxHeartbeats 12800000
theorem v7 (l : List UInt8) (hl : l.length<=9223372036854775807) : aj Tryz.prog 7 [.c (.s (l.map e9))] (.one (.c (.v (.bool true)) 1)):=by
 refine D9 rfl (eM.intro ae Tryz.func7 (by kernel_rfl) rfl rfl rfl (Nat.le_of_ble_eq_true rfl) (λw0 base o=>?_));simp;by_cases hbig : 1048576 < (l.length : Int)
 ·simp [hbig]
 have hl2 : l.length<=2 ^ 40:=by omega
 simp [hbig];refine gp (yg l hl2) (by simp) ?_
 rintro _ ⟨h,w,hok,hr,rfl⟩
 simp [Hub.res,Wld.res];intro b3 b4;obtain ⟨wok,⟨hs0,hs⟩,wt⟩:=l9 hok hr;have hwn:=sO wt (by omega);have hs1 : ¬ w.step = 1000000:=by omega
 have hno:=Fe wok hs1;have hst : ¬ nY w:=λc=>c.2.1 (uM.2 (hno.1 (by unfold FP;rw [c.2.2.1,c.2.2.2];rfl)))
 have c1:=yw w hwn;have c2:=sJ w hwn;have c3:=sL w hwn;have c4:=oU w hwn;have c5:=jr w hwn;have c6:=d8 w hwn;obtain ⟨-,-,n3,n4⟩:=bd hwn;have hlt:=aA n4;have hlq:=aA n3
 have hal : (gR w).length<=w.tasks.length:=by
  rw [m6 ⟨wok,hs1⟩];unfold dG;rw [List.length_map];exact Nat.le_trans (List.length_filter_le _ _) (by simp)
 have hsl : (dY w).length<=w.queues.length:=by rw [iy ⟨wok,hs1⟩];simp
 have wsum:=Go.IntWalk.i64_in (((gR w).length : Int) + ((dY w).length : Int)) (by omega);refine am.quiet eok mix (by kernel_rfl) ?_;simp;refine ⟨_,_,c1,by simp [Wld.row],?_⟩;simp [ab hst];refine ⟨_,_,c2,by simp [Wld.row],?_⟩;simp;refine ⟨_,_,c3,by simp [Wld.row],?_⟩;simp;refine ⟨_,_,c4,by simp [Wld.row],?_⟩
 have hre : rZ w ↔ ((gR w).length : Int) + ((dY w).length : Int) = 0:=by
  rw [uM,<- hno];unfold FP;omega
 simp [wsum,<- hre];refine aa.ro c5 (by simp [Wld.row]) ?_;simp;refine aa.ro c3 (by simp [Wld.row]) ?_;simp;generalize hA : gR w = A at hal
 refine ag eok (λi : Nat=>i<=A.length) (λi=>⟨85,0,[(42,.v (.int .i64 i)),(41,.v (.int .i64 A.length)),(40,.ro (A.map ak)),(5,.v (.int .i64 (er w))),(4,.p 64 b4 0)],
  (64,.vars b4 39 [.v (.bool w.h.shut),.ro (w.h.docs.map Doc.row),.ro (w.h.subs.map Sub.row),.v (.int .i64 w.h.last),.ro (w.locks.map ak),.ro (w.queues.map Queue.row),.ro (w.tasks.map Task.row),.v (.int .i64 w.step)]) :: phs o⟩) (λi=>A.length - i)
  0 (by simp) (by simp) (λi hi=>Ent.refl ?_)
 by_cases c : i < A.length
 ·simp [c]
  obtain ⟨k,hk,hke,hky⟩:=Jc (w:=w) (p:=i) (by rw [hA];exact c);have hke' : A[i] = (k : Int):=by subst hA;exact hke
  have less:=uZ wok (GA hky);have hx:=(l9 hok (Reach.step hr (.pick hky))).2.2;have hc:=AA w hwn k hky;generalize (cH w k).1 = x at less hx hc;simp [hke'];refine gp hc (by simp [Wld.row]) ?_
  rintro _ rfl
  simp [Wld.res];intro b8;refine aa.ro (jr x (sO hx (by omega))) (by simp [Wld.row]) ?_;have less' : ¬ er w<=er x:=by omega
  simp [ab less'];exact Ent.refl ⟨i + 1,by omega,by omega,by simp;exact ah (by omega)⟩
 simp [c];refine aa.ro c4 (by simp [Wld.row]) ?_;simp;generalize hS : dY w = S at hsl
 refine ag eok (λi : Nat=>i<=S.length) (λi=>⟨85,0,[(64,.v (.int .i64 i)),(63,.v (.int .i64 S.length)),(62,.ro (S.map Ch)),(5,.v (.int .i64 (er w))),(4,.p 64 b4 0)],
  (64,.vars b4 39 [.v (.bool w.h.shut),.ro (w.h.docs.map Doc.row),.ro (w.h.subs.map Sub.row),.v (.int .i64 w.h.last),.ro (w.locks.map ak),.ro (w.queues.map Queue.row),.ro (w.tasks.map Task.row),.v (.int .i64 w.step)]) :: phs o⟩) (λi=>S.length - i)
  0 (by simp) (by simp) (λi hi=>Ent.refl ?_)
 by_cases c : i < S.length
 ·simp [c,Ch]
  obtain ⟨q,hq,hqe⟩:=Cn (w:=w) (p:=i) (by rw [hS];exact c);have hqe' : bq w.queues S[i] = (q : Int):=by subst hS;exact hqe
  generalize S[i] = name at hqe';obtain ⟨k,hk,rest,hql,-⟩:=fY wok hq;have hy : (cF w name).2 = true:=by rw [jd wok hs1 hq hqe' hk hql]
  obtain ⟨k,hon⟩:=Du hy;have less:=uZ wok hon;have hx:=(l9 hok (Reach.step hr (.serve hy))).2.2;have hc:=yx w hwn name;generalize cF w name = z at less hx hc hy;obtain ⟨x,ok⟩:=z;simp only at hy less hx hc;subst hy;refine aa.ro hc (by simp [Wld.row]) ?_;simp [Wld.res];intro b12;refine aa.ro (jr x (sO hx (by omega))) (by simp [Wld.row]) ?_;have less' : ¬ er w<=er x:=by omega
  simp [ab less'];exact Ent.refl ⟨i + 1,by omega,by omega,by simp;exact ah (by omega)⟩
 simp [c];refine aa.ro c6 (by simp [Wld.row]) ?_;simp [wok]
end Go.Proofs.YtoldjebobgocpaaGreat
