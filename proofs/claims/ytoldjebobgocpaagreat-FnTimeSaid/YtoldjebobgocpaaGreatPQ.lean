import Derived.Test.YtoldjebobgocpaaGreatPN
import Derived.Test.YtoldjebobgocpaaGreatMF
import Derived.Test.YtoldjebobgocpaaGreatMG
import Derived.Test.YtoldjebobgocpaaGreatPA
import Derived.Test.YtoldjebobgocpaaGreatPB
import Derived.Test.YtoldjebobgocpaaGreatPD
import Derived.Test.YtoldjebobgocpaaGreatPC
import Derived.Test.YtoldjebobgocpaaGreatPI
import Derived.Test.YtoldjebobgocpaaGreatPG
import Derived.Test.YtoldjebobgocpaaGreatPK
import Derived.Test.YtoldjebobgocpaaGreatPO
namespace Go.Proofs.YtoldjebobgocpaaGreat
open Go.AM
set_option maxRecDepth 20000
set_option maxHeartbeats 3200000
theorem GU (x : Int) : 0<=bits .and .i64 x 255/\bits .and .i64 x 255<=255:=by
 have h : ∀ n : Nat,n<=255->Go.IntKind.i64.wrap (n : Int) = n:=λn hn=>Go.IntWalk.i64_in _ ⟨by omega,by omega⟩
 have hle : ∀ a : Nat,a &&& 255<=255:=λa=>Nat.and_le_right
 simp only [bits];have e : (BitVec.ofInt IntKind.i64.bits 255).toNat = 255:=by decide
 have:=h _ (hle (BitVec.ofInt IntKind.i64.bits x).toNat);simp only [BitVec.toNat_and,e];rw [this];have:=hle (BitVec.ofInt IntKind.i64.bits x).toNat;omega
def Ct (p : Int->Prop) (rr : RR) : Prop:=∃ x : Int,p x/\rr = .one (.c (.v (.int .i64 x)) 1)
theorem kM (l : List UInt8) (hl : l.length<=2 ^ 40) : gg Tryz.prog 141 (l.map eS) 210 [] (Ct λx=>0<=x/\x<=255):=by
 refine gg.intro ae Tryz.func210 (by kernel_rfl) rfl rfl rfl (Nat.le_of_ble_eq_true rfl) (λw0 base b u i h hi0 hi1 hu=>?_);have bi : IntKind.i64.bits = 64:=rfl;simp [cN];refine am.quiet eok mix (by kernel_rfl) ?_;simp [bi];generalize hx : bits BinOp.and IntKind.i64 _ 255 = x;have hx1:=GU (bits .xor .i64 (Go.IntKind.i64.wrap (Go.IntKind.i64.wrap (h * 6364136223846793005) + 1442695040888963407) / 8589934592) (Go.IntKind.i64.wrap (Go.IntKind.i64.wrap (h * 6364136223846793005) + 1442695040888963407) / 35184372088832));generalize Go.IntKind.i64.wrap (Go.IntKind.i64.wrap (h * 6364136223846793005) + 1442695040888963407) = h1 at hx hx1 ⊢;rw [hx] at hx1;refine am.quiet eok mix (by kernel_rfl) ?_;simp;by_cases c : i < (l.length : Int)
 ·simp [c]
  refine drw eok mix [0,1,2,3,4,5,6,7,8,9,10,11,12,13] [14] (.c 14 14 16383 0 (.l 14 0) .s) ?_;simp
  try intros
  refine ⟨_,hu,?_⟩;obtain ⟨k,rfl⟩ : ∃ k : Nat,i = k:=⟨i.toNat,by omega⟩;have hk : k < l.length:=by omega
  have hk2:=ah (n:=k) (by omega);have hy1:=GU (Go.IntKind.i64.wrap (x + Go.IntKind.i64.wrap (l[k].toNat : Int)));generalize hy : bits .and .i64 (Go.IntKind.i64.wrap (x + Go.IntKind.i64.wrap (l[k].toNat : Int))) 255 = y at hy1;simp [hk,hk2,hy];refine aS (.c _ 1) ⟨y,hy1,rfl⟩ ?_;simp;exact ai rfl (by omega) (by omega)
 ·simp [c]
  refine aS (.c _ 1) ⟨_,hx1,rfl⟩ ?_;simp;exact ai rfl (by omega) (by simpa using hi1)
def MJ (n x : Int) : Prop:=0<=x/\(n<=0->x = 0)/\(0 < n->x < n)
theorem al (l : List UInt8) (hl : l.length<=2 ^ 40) (n : Int) : gg Tryz.prog 141 (l.map eS) 111 [.c (.v (.int .i64 n))] (Ct (MJ n)):=by
 refine gg.intro ae Tryz.func111 (by kernel_rfl) rfl rfl rfl (Nat.le_of_ble_eq_true rfl) (λw0 base b u i h hi0 hi1 hu=>?_);have hi1 : i<=(l.length : Int):=by simpa using hi1
 simp [cN];by_cases c0 : n<=0
 ·simp [c0]
  refine aS (.c _ 1) ⟨0,⟨by omega,by omega,by omega⟩,rfl⟩ ?_;simp;exact ai rfl hi0 hi1
 have hn : n≠0:=by omega
 by_cases c1 : n<=256
 ·simp [c0,c1]
  refine aa.cur (kM l hl) hu (by simp) rfl hi0 hi1 (by simp) ?_
  rintro _ i1 h1 ⟨x,hx,rfl⟩ g0 g1
  simp [hn];refine aS (.c _ 1) ⟨x.tmod n,⟨Int.tmod_nonneg _ hx.1,by omega,λhp=>Int.tmod_lt_of_pos _ hp⟩,rfl⟩ ?_;simp;exact ai rfl g0 g1
 ·simp [c0,c1]
  refine aa.cur (kM l hl) hu (by simp) rfl hi0 hi1 (by simp) ?_
  rintro _ i1 h1 ⟨x,hx,rfl⟩ g0 g1
  simp;refine aa.cur (kM l hl) hu (by simp) rfl g0 g1 (by simp) ?_
  rintro _ i2 h2 ⟨y,hy,rfl⟩ g0 g1
  simp;refine aa.cur (kM l hl) hu (by simp) rfl g0 g1 (by simp) ?_
  rintro _ i3 h3 ⟨z,hz,rfl⟩ g0 g1
  simp;refine aa.cur (kM l hl) hu (by simp) rfl g0 g1 (by simp) ?_
  rintro _ i4 h4 ⟨w,hw,rfl⟩ g0 g1
  have w1:=Go.IntWalk.i64_in (x * 16777216) (by omega);have w2:=Go.IntWalk.i64_in (y * 65536) (by omega);have w3:=Go.IntWalk.i64_in (z * 256) (by omega);have w4:=Go.IntWalk.i64_in (x * 16777216 + y * 65536) (by omega);have w5:=Go.IntWalk.i64_in (x * 16777216 + y * 65536 + z * 256) (by omega);have w6:=Go.IntWalk.i64_in (x * 16777216 + y * 65536 + z * 256 + w) (by omega);simp [hn,w1,w2,w3,w4,w5,w6];refine aS (.c _ 1) ⟨(x * 16777216 + y * 65536 + z * 256 + w).tmod n,⟨Int.tmod_nonneg _ (by omega),by omega,λhp=>Int.tmod_lt_of_pos _ hp⟩,rfl⟩ ?_;simp;exact ai rfl g0 g1
def OO (p : ByteArray->Prop) (rr : RR) : Prop:=∃ x : ByteArray,p x/\rr = .one (.c (.v (.string x)) 1)
def Rs (rr : RR) : Prop:=∃ q : Bool,rr = .one (.c (.v (.bool q)) 1)
theorem gn (l : List UInt8) (hl : l.length<=2 ^ 40) (n : Int) : gg Tryz.prog 141 (l.map eS) 205 [.c (.v (.int .i64 n))] Rs:=by
 refine gg.intro ae Tryz.func205 (by kernel_rfl) rfl rfl rfl (Nat.le_of_ble_eq_true rfl) (λw0 base b u i h hi0 hi1 hu=>?_);have hi1 : i<=(l.length : Int):=by simpa using hi1
 simp [cN];refine aa.cur (al l hl n) hu (by simp) rfl hi0 hi1 (by simp) ?_
 rintro _ i1 h1 ⟨x,hx,rfl⟩ g0 g1
 simp;refine aS (.c _ 1) ⟨dc (x = 0),rfl⟩ ?_;simp;exact ai rfl g0 g1
theorem pJ (n : Int) : -9223372036854775808<=Go.IntKind.i64.wrap n/\Go.IntKind.i64.wrap n<=9223372036854775807:=by
 rw [Go.IntKind.wrap_i64];omega
theorem vn (l : List UInt8) (hl : l.length<=2 ^ 40) (L : List Int) (hL : 0 < L.length) : gg Tryz.prog 141 (l.map eS) 358 [.c (.s (L.map ak))] (Ct λx=>x∈L):=by
 refine gg.intro ae Tryz.func358 (by kernel_rfl) rfl rfl rfl (Nat.le_of_ble_eq_true rfl) (λw0 base b u i h hi0 hi1 hu=>?_);have hi1 : i<=(l.length : Int):=by simpa using hi1
 simp [cN];refine aa.cur (al l hl L.length) hu (by simp) rfl hi0 hi1 (by simp) ?_
 rintro _ i1 h1 ⟨x,hx,rfl⟩ g0 g1
 obtain ⟨k,rfl⟩ : ∃ k : Nat,x = k:=⟨x.toNat,by have:=hx.1;omega⟩;have hk : k < L.length:=by have:=hx.2.2 (by omega);omega
 simp [hk];refine aS (.c _ 1) ⟨L[k],List.getElem_mem hk,rfl⟩ ?_;simp;exact ai rfl g0 g1
theorem FS (l : List UInt8) (hl : l.length<=2 ^ 40) (L : List ByteArray) (hL : 0 < L.length) : gg Tryz.prog 141 (l.map eS) 309 [.c (.s (L.map λs=>[.v (.string s)]))] (OO λx=>x∈L):=by
 refine gg.intro ae Tryz.func309 (by kernel_rfl) rfl rfl rfl (Nat.le_of_ble_eq_true rfl) (λw0 base b u i h hi0 hi1 hu=>?_);have hi1 : i<=(l.length : Int):=by simpa using hi1
 simp [cN];refine aa.cur (al l hl L.length) hu (by simp) rfl hi0 hi1 (by simp) ?_
 rintro _ i1 h1 ⟨x,hx,rfl⟩ g0 g1
 obtain ⟨k,rfl⟩ : ∃ k : Nat,x = k:=⟨x.toNat,by have:=hx.1;omega⟩;have hk : k < L.length:=by have:=hx.2.2 (by omega);omega
 simp [hk];refine aS (.c _ 1) ⟨L[k],List.getElem_mem hk,rfl⟩ ?_;simp;exact ai rfl g0 g1
theorem na (l : List UInt8) (hl : l.length<=2 ^ 40) (lo hi : Int) (hlo : -9223372036854775808<=lo/\lo<=9223372036854775807) (hhi : -9223372036854775808<=hi/\hi<=9223372036854775807) :
 gg Tryz.prog 141 (l.map eS) 310 [.c (vi lo),.c (vi hi)] (Ct λx=>-9223372036854775808<=x/\x<=9223372036854775807):=by
 refine gg.intro ae Tryz.func310 (by kernel_rfl) rfl rfl rfl (Nat.le_of_ble_eq_true rfl) (λw0 base b u i h hi0 hi1 hu=>?_);have hi1 : i<=(l.length : Int):=by simpa using hi1
 simp [cN];refine aa.cur (al l hl 12) hu (by simp) rfl hi0 hi1 (by simp) ?_
 rintro _ i1 h1 ⟨x,hx,rfl⟩ g0 g1
 simp;by_cases c0 : x = 0
 ·simp [c0]
  refine aS (.c _ 1) ⟨lo,hlo,rfl⟩ ?_;simp;exact ai rfl g0 g1
 by_cases c1 : x = 1
 ·simp [c1]
  refine aS (.c _ 1) ⟨hi,hhi,rfl⟩ ?_;simp;exact ai rfl g0 g1
 by_cases c2 : x = 2
 ·simp [c2]
  refine aS (.c _ 1) ⟨_,pJ (lo - 1),rfl⟩ ?_;simp;exact ai rfl g0 g1
 by_cases c3 : x = 3
 ·simp [c3]
  refine aS (.c _ 1) ⟨_,pJ (hi + 1),rfl⟩ ?_;simp;exact ai rfl g0 g1
 by_cases c4 : x = 4
 ·simp [c4]
  intro bb;refine aa.cur (vn l hl [9223372036854775807,-9223372036854775808,-1,0,1000000001] (by simp)) hu (by simp) rfl g0 g1 (by simp) ?_
  rintro _ i2 h2 ⟨y,hy,rfl⟩ g0 g1
  simp;refine aS (.c _ 1) ⟨y,by simp at hy;omega,rfl⟩ ?_;simp;exact ai rfl g0 g1
 simp [c0,c1,c2,c3,c4];by_cases c5 : 60000 < Go.IntKind.i64.wrap (hi - lo)
 ·simp [c5]
  refine aa.cur (al l hl 60000) hu (by simp) rfl g0 g1 (by simp) ?_
  rintro _ i2 h2 ⟨y,hy,rfl⟩ g0 g1
  simp;refine aS (.c _ 1) ⟨_,pJ (lo + y),rfl⟩ ?_;simp;exact ai rfl g0 g1
 ·simp [c5]
  refine aa.cur (al l hl (Go.IntKind.i64.wrap (Go.IntKind.i64.wrap (hi - lo) + 1))) hu (by simp) rfl g0 g1 (by simp) ?_
  rintro _ i2 h2 ⟨y,hy,rfl⟩ g0 g1
  simp;refine aS (.c _ 1) ⟨_,pJ (lo + y),rfl⟩ ?_;simp;exact ai rfl g0 g1
theorem C4 (l : List UInt8) (hl : l.length<=2 ^ 40) : gg Tryz.prog 141 (l.map eS) 293 [] (Ct fN):=by
 refine gg.intro ae Tryz.func293 (by kernel_rfl) rfl rfl rfl (Nat.le_of_ble_eq_true rfl) (λw0 base b u i h hi0 hi1 hu=>?_);have hi1 : i<=(l.length : Int):=by simpa using hi1
 simp [cN];refine aa.cur (gn l hl 8) hu (by simp) rfl hi0 hi1 (by simp) ?_
 rintro _ i1 h1 ⟨q,rfl⟩ g0 g1
 simp
 cases q with
 | true =>
   simp;intro bb;refine aa.cur (vn l hl [0,127,128,2047,2048,55295,57344,65535,65536,1114111,10,32] (by simp)) hu (by simp) rfl g0 g1 (by simp) ?_
   rintro _ i2 h2 ⟨y,hy,rfl⟩ g0 g1
   simp;refine aS (.c _ 1) ⟨y,by unfold fN;simp at hy;omega,rfl⟩ ?_;simp;exact ai rfl g0 g1
 | false =>
   simp;refine aa.cur (al l hl 6) hu (by simp) rfl g0 g1 (by simp) ?_
   rintro _ i2 h2 ⟨y,hy,rfl⟩ g0 g1
   have hw:=Go.IntWalk.i64_in (97 + y) (by have:=hy.1;have:=hy.2.2 (by omega);omega);simp [hw];refine aS (.c _ 1) ⟨97 + y,by unfold fN;have:=hy.1;have:=hy.2.2 (by omega);omega,rfl⟩ ?_;simp;exact ai rfl g0 g1
def OP (p : List Int->Prop) (rr : RR) : Prop:=∃ L : List Int,p L/\rr = .one (.c (.s (L.map ak)) 1)
theorem hU (l : List UInt8) (hl : l.length<=2 ^ 40) (most : Int) (hm0 : 0<=most) (hm : most<=1000) : gg Tryz.prog 141 (l.map eS) 204 [.c (vi most)] (OP λL=>(L.length : Int)<=most/\∀ x∈L,fN x):=by
 refine gg.intro ae Tryz.func204 (by kernel_rfl) rfl rfl rfl (Nat.le_of_ble_eq_true rfl) (λw0 base b u i h hi0 hi1 hu=>?_);have hi1 : i<=(l.length : Int):=by simpa using hi1
 have hw:=Go.IntWalk.i64_in (most + 1) (by omega);simp [cN,hw];intro b7;refine aa.cur (al l hl (most + 1)) hu (by simp) rfl hi0 hi1 (by simp) ?_
 rintro _ i1 h1 ⟨n,hn,rfl⟩ g0 g1
 have hn1:=hn.1;have hn2:=hn.2.2 (by omega);obtain ⟨k,rfl⟩ : ∃ k : Nat,n = k:=⟨n.toNat,by omega⟩;simp
 refine ag eok (λx : Nat × List Int × Hd × Int × Int=>(x.2.1.length : Int) + x.1<=most/\(∀ s∈x.2.1,fN s)/\0<=x.2.2.2.1/\x.2.2.2.1<=(l.length : Int))
  (λx=>⟨22,0,[(6,.v (.int .i64 x.1)),(5,.sl 112 x.2.2.1 1 0 x.2.1.length),(0,.p 0 b 0)],[(0,.vars b 141 (cN u l.length x.2.2.2.1 x.2.2.2.2)),(112,.rows x.2.2.1 1 (x.2.1.map ak) true)]⟩)
  (λx=>x.1) (k,[],some (b7,0,0),i1,h1) (by simp;omega) (by simp) (λx hx=>Ent.refl ?_)
 obtain ⟨m,L,H,i2,h2⟩:=x;obtain ⟨hx1,hx2,hx3,hx4⟩:=hx;simp only at hx1 hx2 hx3 hx4 ⊢;by_cases hm1 : 0 < m
 ·simp [hm1]
  refine aa.cur (C4 l hl) hu (by simp) rfl hx3 hx4 (by simp) ?_
  rintro _ i3 h3 ⟨s,hs,rfl⟩ g2 g3
  simp;intro b19;refine ⟨by omega,λH2=>Ent.refl ?_⟩;have hw2:=Go.IntWalk.i64_in ((m : Int) - 1) (by omega);refine ⟨m - 1,L ++ [s],H2,i3,⟨by simp;omega,?_,g2,g3⟩,by omega,h3,by simp [hw2];omega⟩;intro y hy;rcases List.mem_append.1 hy with hy | hy
  ·exact hx2 y hy
  ·simp at hy;subst hy;exact hs
 ·have : m = 0:=by omega
  subst this;simp;refine aS (.c _ 1) ⟨L,⟨by omega,hx2⟩,rfl⟩ ?_;simp;exact ai rfl hx3 hx4
theorem m8 (l : List UInt8) (hl : l.length<=2 ^ 40) : gg Tryz.prog 141 (l.map eS) 229 [] (OO λs=>eZ s):=by
 refine gg.intro ae Tryz.func229 (by kernel_rfl) rfl rfl rfl (Nat.le_of_ble_eq_true rfl) (λw0 base b u i h hi0 hi1 hu=>?_);have hi1 : i<=(l.length : Int):=by simpa using hi1
 simp [cN];intro b4;refine aa.cur (FS l hl [⟨#[97]⟩,⟨#[98]⟩,⟨#[110,111,116,101,115]⟩,⟨#[116,111,100,111]⟩] (by simp)) hu (by simp) rfl hi0 hi1 (by simp) ?_
 rintro _ i1 h1 ⟨s,hs,rfl⟩ g0 g1
 have hok : eZ s:=by
  simp at hs;rcases hs with rfl | rfl | rfl | rfl<;>(unfold eZ;decide)
 simp;refine aS (.c _ 1) ⟨s,hok,rfl⟩ ?_;simp;exact ai rfl g0 g1
set_option maxHeartbeats 6400000
def yk (fr : Int) (p : Part) : Prop:=(1<=p.kind/\p.kind<=3)/\(0<=p.n/\p.n<=fr)/\p.signs.length<=3/\∀ x∈p.signs,fN x
def eE (fr : Int) (p : Part) : Prop:=((p.kind = 1\/p.kind = 3)/\(0<=p.n/\p.n<=fr)/\p.signs = [])\/(p.kind = 2/\p.n = 0/\p.signs.length<=3/\dS p.signs)
theorem eE.b {fr : Int} (h0 : 0<=fr) {p : Part} (h : eE fr p) : yk fr p:=by
 rcases h with ⟨h1,h2,h3⟩ | ⟨h1,h2,h3,h4⟩
 ·exact ⟨by omega,h2,by simp [h3],by simp [h3]⟩
 ·exact ⟨by omega,by omega,h3,h4⟩
def pts : List Part->Nat
 | []=>0
 | p :: o=>(if p.kind = 2 then psz p else 0) + pts o
def opD (fr : Int) (o : List Part) : Prop:=(∀ p∈o,eE fr p)/\(frs o : Int) = fr/\tos o<=frs o + 12/\pts o<=12
theorem eP (p : Part) : ∀ o : List Part,pts (o ++ [p]) = pts o + (if p.kind = 2 then psz p else 0)
 | []=>by simp [pts]
 | q :: o=>by simp only [List.cons_append,pts,eP p o];omega
theorem bZ (p : Part) : ∀ o : List Part,frs (o ++ [p]) = frs o + (if p.kind = 2 then 0 else psz p)
 | []=>by simp [frs]
 | q :: o=>by simp only [List.cons_append,frs,bZ p o];omega
theorem eO (p : Part) : ∀ o : List Part,tos (o ++ [p]) = tos o + (if p.kind = 3 then 0 else psz p)
 | []=>by simp [tos]
 | q :: o=>by simp only [List.cons_append,tos,eO p o];omega
theorem opD.ok {fr : Int} {o : List Part} (h : opD fr o) (h0 : 0<=fr) (h1 : fr<=188) (hl : o.length<=42) : bN o/\br o = fr/\jJ o<=fr + 12:=by
 have hp : ∀ p∈o,ap p:=λp hp=>by
  rcases h.1 p hp with ⟨h1,h2,h3⟩ | ⟨h1,h2,h3,h4⟩
  ·exact .inl ⟨h1,by omega,h3⟩
  ·exact .inr ⟨h1,h2,by omega,h4⟩
 have hps : cW o:=⟨hp,by omega⟩;have f:=sE hps;have t:=yj hps;have:=h.2;exact ⟨⟨hps,by omega,by omega⟩,by omega,by omega⟩
def Lz (p : List Part->Prop) (rr : RR) : Prop:=∃ L : List Part,p L/\rr = .one (.c (.s (L.map Part.row)) 3)
theorem nF {fr : Int} {o : List Part} {lf : Int} (h : ∀ q∈o,eE fr q) (hl : 0<=lf/\lf<=fr) (hf : (frs o : Int) + lf = fr) (ht : tos o<=frs o + 12) (hq : pts o<=12) (hn : o.length<=41) (h0 : 0<=fr) :
 (o ++ [(⟨1,lf,[]⟩ : Part)]).length<=42/\(∀ p∈o ++ [(⟨1,lf,[]⟩ : Part)],yk fr p)/\opD fr (o ++ [(⟨1,lf,[]⟩ : Part)]):=by
 have hall : ∀ q∈o ++ [(⟨1,lf,[]⟩ : Part)],eE fr q:=λq hq=>(List.mem_append.1 hq).elim (h q) (λh=>by simp at h;subst h;exact Or.inl ⟨Or.inl rfl,hl,rfl⟩)
 refine ⟨by simp;omega,λp hp=>(hall p hp).b h0,hall,?_,?_,?_⟩
 ·rw [bZ];simp [psz];omega
 ·rw [bZ,eO];simp [psz];omega
 ·rw [eP];simp;omega
theorem vm (l : List UInt8) (hl : l.length<=2 ^ 40) (fr : Int) (hf0 : 0<=fr) (hf : fr<=2 ^ 40) : gg Tryz.prog 141 (l.map eS) 239 [.c (vi fr)] (Lz λo=>o.length<=42/\(∀ p∈o,yk fr p)/\opD fr o):=by
 refine gg.intro ae Tryz.func239 (by kernel_rfl) rfl rfl rfl (Nat.le_of_ble_eq_true rfl) (λw0 base b u i h hi0 hi1 hu=>?_);have hi1 : i<=(l.length : Int):=by simpa using hi1
 simp;intro b11
 refine ag eok (λx : List Part × Int × Nat × Hd × Int × Int=>x.1.length<=40/\(∀ p∈x.1,eE fr p)/\(0<=x.2.1/\x.2.1<=fr)/\x.2.2.1<=12/\0<=x.2.2.2.2.1/\x.2.2.2.2.1<=(l.length : Int)/\(frs x.1 : Int) + x.2.1 = fr/\tos x.1 + x.2.2.1<=frs x.1 + 12/\pts x.1 + x.2.2.1<=12)
  (λx=>⟨75,0,[(7,.v (.int .i64 x.2.2.1)),(6,.v (.int .i64 x.2.1)),(5,.sl 176 x.2.2.2.1 3 0 x.1.length),(0,.p 0 b 0)],[(0,.vars b 141 (cN u l.length x.2.2.2.2.1 x.2.2.2.2.2)),(176,.rows x.2.2.2.1 3 (x.1.map Part.row) true)]⟩)
  (λx=>41 - x.1.length) ([],fr,12,some (b11,0,0),i,h) (by simp [frs,tos,pts];omega) (by simp) (λx hx=>Ent.refl ?_)
 obtain ⟨o,left,room,H,i1,h1⟩:=x;obtain ⟨x1,x2,x3,x4,x5,x6,x7,x8,x9⟩:=hx;simp only at x1 x2 x3 x4 x5 x6 x7 x8 x9 ⊢;simp;by_cases c : 0 < left
 ·simp [c]
  refine aa.cur (al l hl 4) hu (by simp) rfl x5 x6 (by simp) ?_
  rintro _ i2 h2 ⟨z,hz,rfl⟩ y5 y6
  simp;have wl:=Go.IntWalk.i64_in (left + 1) (by omega);by_cases z0 : z = 0
  ·simp [z0]
   refine aa.cur (hU l hl 3 (by omega) (by omega)) hu (by simp) rfl y5 y6 (by simp) ?_
   rintro _ i3 h3 ⟨S,hS,rfl⟩ y5 y6
   simp;intro HS;by_cases c1 : room < S.length
   ·have wr:=Go.IntWalk.i64_in (room : Int) (by omega)
    simp [c1,wr];have hP : eE fr (⟨2,0,[]⟩ : Part):=.inr ⟨rfl,rfl,by simp,by simp [dS]⟩;have hF : (frs (o ++ [(⟨2,0,[]⟩ : Part)]) : Int) + (left : Int) = fr:=by rw [bZ];(simp;omega)
    have hT : tos (o ++ [(⟨2,0,[]⟩ : Part)]) + (room : Nat)<=frs (o ++ [(⟨2,0,[]⟩ : Part)]) + 12:=by rw [bZ,eO];(simp [psz];omega)
    have hT2 : pts (o ++ [(⟨2,0,[]⟩ : Part)]) + (room : Nat)<=12:=by rw [eP];(simp [psz];omega)
    have hLf : 0<=(left : Int)/\(left : Int)<=fr:=x3;have hRm : (room : Nat)<=12:=x4;have hall : ∀ q∈o ++ [(⟨2,0,[]⟩ : Part)],eE fr q:=λq hq=>(List.mem_append.1 hq).elim (x2 q) (λh=>by simp at h;subst h;exact hP)
    intro bA;refine ⟨by omega,λHB=>?_⟩;by_cases c2 : 40 < (o.length : Int) + 1
    ·simp [c2]
     intro bB;refine ⟨by omega,λHC=>?_⟩;refine aS (.c _ 3) ⟨o ++ [(⟨2,0,[]⟩ : Part)] ++ [⟨1,left,[]⟩],nF hall hLf hF (by omega) (by omega) (by simp;omega) hf0,rfl⟩ ?_;simp;refine ⟨?_,⟨rfl,rfl⟩,ai rfl y5 y6⟩
     rintro row (⟨a,-,rfl⟩ | rfl | rfl)<;>rfl
    ·simp [c2]
     refine Ent.refl ⟨o ++ [(⟨2,0,[]⟩ : Part)],left,room,HB,_,⟨by simp;omega,hall,hLf,hRm,y5,y6,hF,hT,hT2⟩,by simp;omega,h3,?_⟩;simp [Part.row]<;>omega
   ·have wr:=Go.IntWalk.i64_in ((room : Int) - S.length) (by omega)
    simp [c1,wr];have hP : eE fr (⟨2,0,S⟩ : Part):=.inr ⟨rfl,rfl,by have:=hS.1;simp;omega,hS.2⟩;have hF : (frs (o ++ [(⟨2,0,S⟩ : Part)]) : Int) + (left : Int) = fr:=by rw [bZ];(simp;omega)
    have hT : tos (o ++ [(⟨2,0,S⟩ : Part)]) + ((room - S.length) : Nat)<=frs (o ++ [(⟨2,0,S⟩ : Part)]) + 12:=by rw [bZ,eO];(simp [psz];omega)
    have hT2 : pts (o ++ [(⟨2,0,S⟩ : Part)]) + ((room - S.length) : Nat)<=12:=by rw [eP];(simp [psz];omega)
    have hLf : 0<=(left : Int)/\(left : Int)<=fr:=x3;have hRm : ((room - S.length) : Nat)<=12:=(by omega);have hall : ∀ q∈o ++ [(⟨2,0,S⟩ : Part)],eE fr q:=λq hq=>(List.mem_append.1 hq).elim (x2 q) (λh=>by simp at h;subst h;exact hP)
    intro bA;refine ⟨by omega,λHB=>?_⟩;by_cases c2 : 40 < (o.length : Int) + 1
    ·simp [c2]
     intro bB;refine ⟨by omega,λHC=>?_⟩;refine aS (.c _ 3) ⟨o ++ [(⟨2,0,S⟩ : Part)] ++ [⟨1,left,[]⟩],nF hall hLf hF (by omega) (by omega) (by simp;omega) hf0,rfl⟩ ?_;simp;refine ⟨?_,⟨rfl,rfl⟩,ai rfl y5 y6⟩
     rintro row (⟨a,-,rfl⟩ | rfl | rfl)<;>rfl
    ·simp [c2]
     refine Ent.refl ⟨o ++ [(⟨2,0,S⟩ : Part)],left,(room - S.length),HB,_,⟨by simp;omega,hall,hLf,hRm,y5,y6,hF,hT,hT2⟩,by simp;omega,h3,?_⟩;simp [Part.row]<;>omega
  by_cases z1 : z = 1
  ·simp [z1,wl]
   refine aa.cur (al l hl (left + 1)) hu (by simp) rfl y5 y6 (by simp) ?_
   rintro _ i3 h3 ⟨m,hm,rfl⟩ y5 y6
   have hm1:=hm.1;have hm2:=hm.2.2 (by omega);simp;by_cases c1 : 4 < m
   ·have wr:=Go.IntWalk.i64_in (left - 4) (by omega)
    simp [c1,wr];have hP : eE fr (⟨3,4,[]⟩ : Part):=.inl ⟨.inr rfl,by simp;omega,rfl⟩;have hF : (frs (o ++ [(⟨3,4,[]⟩ : Part)]) : Int) + ((left - 4) : Int) = fr:=by rw [bZ];(simp [psz];omega)
    have hT : tos (o ++ [(⟨3,4,[]⟩ : Part)]) + (room : Nat)<=frs (o ++ [(⟨3,4,[]⟩ : Part)]) + 12:=by rw [bZ,eO];(simp [psz];omega)
    have hT2 : pts (o ++ [(⟨3,4,[]⟩ : Part)]) + (room : Nat)<=12:=by rw [eP];(simp;omega)
    have hLf : 0<=((left - 4) : Int)/\((left - 4) : Int)<=fr:=(by omega);have hRm : (room : Nat)<=12:=x4;have hall : ∀ q∈o ++ [(⟨3,4,[]⟩ : Part)],eE fr q:=λq hq=>(List.mem_append.1 hq).elim (x2 q) (λh=>by simp at h;subst h;exact hP)
    intro bA;refine ⟨by omega,λHB=>?_⟩;by_cases c2 : 40 < (o.length : Int) + 1
    ·simp [c2]
     intro bB;refine ⟨by omega,λHC=>?_⟩;refine aS (.c _ 3) ⟨o ++ [(⟨3,4,[]⟩ : Part)] ++ [⟨1,(left - 4),[]⟩],nF hall hLf hF (by omega) (by omega) (by simp;omega) hf0,rfl⟩ ?_;simp;refine ⟨?_,⟨rfl,rfl⟩,ai rfl y5 y6⟩
     rintro row (⟨a,-,rfl⟩ | rfl | rfl)<;>rfl
    ·simp [c2]
     refine Ent.refl ⟨o ++ [(⟨3,4,[]⟩ : Part)],(left - 4),room,HB,_,⟨by simp;omega,hall,hLf,hRm,y5,y6,hF,hT,hT2⟩,by simp;omega,h3,?_⟩;simp [Part.row]<;>omega
   ·have wr:=Go.IntWalk.i64_in (left - m) (by omega)
    simp [c1,wr];have hP : eE fr (⟨3,m,[]⟩ : Part):=.inl ⟨.inr rfl,by simp;omega,rfl⟩;have hF : (frs (o ++ [(⟨3,m,[]⟩ : Part)]) : Int) + ((left - m) : Int) = fr:=by rw [bZ];(simp [psz];omega)
    have hT : tos (o ++ [(⟨3,m,[]⟩ : Part)]) + (room : Nat)<=frs (o ++ [(⟨3,m,[]⟩ : Part)]) + 12:=by rw [bZ,eO];(simp [psz];omega)
    have hT2 : pts (o ++ [(⟨3,m,[]⟩ : Part)]) + (room : Nat)<=12:=by rw [eP];(simp;omega)
    have hLf : 0<=((left - m) : Int)/\((left - m) : Int)<=fr:=(by omega);have hRm : (room : Nat)<=12:=x4;have hall : ∀ q∈o ++ [(⟨3,m,[]⟩ : Part)],eE fr q:=λq hq=>(List.mem_append.1 hq).elim (x2 q) (λh=>by simp at h;subst h;exact hP)
    intro bA;refine ⟨by omega,λHB=>?_⟩;by_cases c2 : 40 < (o.length : Int) + 1
    ·simp [c2]
     intro bB;refine ⟨by omega,λHC=>?_⟩;refine aS (.c _ 3) ⟨o ++ [(⟨3,m,[]⟩ : Part)] ++ [⟨1,(left - m),[]⟩],nF hall hLf hF (by omega) (by omega) (by simp;omega) hf0,rfl⟩ ?_;simp;refine ⟨?_,⟨rfl,rfl⟩,ai rfl y5 y6⟩
     rintro row (⟨a,-,rfl⟩ | rfl | rfl)<;>rfl
    ·simp [c2]
     refine Ent.refl ⟨o ++ [(⟨3,m,[]⟩ : Part)],(left - m),room,HB,_,⟨by simp;omega,hall,hLf,hRm,y5,y6,hF,hT,hT2⟩,by simp;omega,h3,?_⟩;simp [Part.row]<;>omega
  simp [z0,z1,wl];refine aa.cur (al l hl (left + 1)) hu (by simp) rfl y5 y6 (by simp) ?_
  rintro _ i3 h3 ⟨m,hm,rfl⟩ y5 y6
  have hm1:=hm.1;have hm2:=hm.2.2 (by omega);have wr:=Go.IntWalk.i64_in (left - m) (by omega);simp [wr];have hP : eE fr (⟨1,m,[]⟩ : Part):=.inl ⟨.inl rfl,by simp;omega,rfl⟩;have hF : (frs (o ++ [(⟨1,m,[]⟩ : Part)]) : Int) + ((left - m) : Int) = fr:=by rw [bZ];(simp [psz];omega)
  have hT : tos (o ++ [(⟨1,m,[]⟩ : Part)]) + (room : Nat)<=frs (o ++ [(⟨1,m,[]⟩ : Part)]) + 12:=by rw [bZ,eO];(simp [psz];omega)
  have hT2 : pts (o ++ [(⟨1,m,[]⟩ : Part)]) + (room : Nat)<=12:=by rw [eP];(simp;omega)
  have hLf : 0<=((left - m) : Int)/\((left - m) : Int)<=fr:=(by omega);have hRm : (room : Nat)<=12:=x4;have hall : ∀ q∈o ++ [(⟨1,m,[]⟩ : Part)],eE fr q:=λq hq=>(List.mem_append.1 hq).elim (x2 q) (λh=>by simp at h;subst h;exact hP)
  intro bA;refine ⟨by omega,λHB=>?_⟩;by_cases c2 : 40 < (o.length : Int) + 1
  ·simp [c2]
   intro bB;refine ⟨by omega,λHC=>?_⟩;refine aS (.c _ 3) ⟨o ++ [(⟨1,m,[]⟩ : Part)] ++ [⟨1,(left - m),[]⟩],nF hall hLf hF (by omega) (by omega) (by simp;omega) hf0,rfl⟩ ?_;simp;refine ⟨?_,⟨rfl,rfl⟩,ai rfl y5 y6⟩
   rintro row (⟨a,-,rfl⟩ | rfl | rfl)<;>rfl
  ·simp [c2]
   refine Ent.refl ⟨o ++ [(⟨1,m,[]⟩ : Part)],(left - m),room,HB,_,⟨by simp;omega,hall,hLf,hRm,y5,y6,hF,hT,hT2⟩,by simp;omega,h3,?_⟩;simp [Part.row]<;>omega
 ·simp [c]
  refine aa.cur (gn l hl 3) hu (by simp) rfl x5 x6 (by simp) ?_
  rintro _ i9 h9 ⟨q,rfl⟩ x5 x6
  simp
  cases q with
  | true =>
    simp;refine aa.cur (al l hl 4) hu (by simp) rfl x5 x6 (by simp) ?_
    rintro _ i2 h2 ⟨z,hz,rfl⟩ y5 y6
    simp;have wl:=Go.IntWalk.i64_in (left + 1) (by omega);by_cases z0 : z = 0
    ·simp [z0]
     refine aa.cur (hU l hl 3 (by omega) (by omega)) hu (by simp) rfl y5 y6 (by simp) ?_
     rintro _ i3 h3 ⟨S,hS,rfl⟩ y5 y6
     simp;intro HS;by_cases c1 : room < S.length
     ·have wr:=Go.IntWalk.i64_in (room : Int) (by omega)
      simp [c1,wr];have hP : eE fr (⟨2,0,[]⟩ : Part):=.inr ⟨rfl,rfl,by simp,by simp [dS]⟩;have hF : (frs (o ++ [(⟨2,0,[]⟩ : Part)]) : Int) + (left : Int) = fr:=by rw [bZ];(simp;omega)
      have hT : tos (o ++ [(⟨2,0,[]⟩ : Part)]) + (room : Nat)<=frs (o ++ [(⟨2,0,[]⟩ : Part)]) + 12:=by rw [bZ,eO];(simp [psz];omega)
      have hT2 : pts (o ++ [(⟨2,0,[]⟩ : Part)]) + (room : Nat)<=12:=by rw [eP];(simp [psz];omega)
      have hLf : 0<=(left : Int)/\(left : Int)<=fr:=x3;have hRm : (room : Nat)<=12:=x4;have hall : ∀ q∈o ++ [(⟨2,0,[]⟩ : Part)],eE fr q:=λq hq=>(List.mem_append.1 hq).elim (x2 q) (λh=>by simp at h;subst h;exact hP)
      intro bA;refine ⟨by omega,λHB=>?_⟩;by_cases c2 : 40 < (o.length : Int) + 1
      ·simp [c2]
       intro bB;refine ⟨by omega,λHC=>?_⟩;refine aS (.c _ 3) ⟨o ++ [(⟨2,0,[]⟩ : Part)] ++ [⟨1,left,[]⟩],nF hall hLf hF (by omega) (by omega) (by simp;omega) hf0,rfl⟩ ?_;simp;refine ⟨?_,⟨rfl,rfl⟩,ai rfl y5 y6⟩
       rintro row (⟨a,-,rfl⟩ | rfl | rfl)<;>rfl
      ·simp [c2]
       refine Ent.refl ⟨o ++ [(⟨2,0,[]⟩ : Part)],left,room,HB,_,⟨by simp;omega,hall,hLf,hRm,y5,y6,hF,hT,hT2⟩,by simp;omega,h3,?_⟩;simp [Part.row]<;>omega
     ·have wr:=Go.IntWalk.i64_in ((room : Int) - S.length) (by omega)
      simp [c1,wr];have hP : eE fr (⟨2,0,S⟩ : Part):=.inr ⟨rfl,rfl,by have:=hS.1;simp;omega,hS.2⟩;have hF : (frs (o ++ [(⟨2,0,S⟩ : Part)]) : Int) + (left : Int) = fr:=by rw [bZ];(simp;omega)
      have hT : tos (o ++ [(⟨2,0,S⟩ : Part)]) + ((room - S.length) : Nat)<=frs (o ++ [(⟨2,0,S⟩ : Part)]) + 12:=by rw [bZ,eO];(simp [psz];omega)
      have hT2 : pts (o ++ [(⟨2,0,S⟩ : Part)]) + ((room - S.length) : Nat)<=12:=by rw [eP];(simp [psz];omega)
      have hLf : 0<=(left : Int)/\(left : Int)<=fr:=x3;have hRm : ((room - S.length) : Nat)<=12:=(by omega);have hall : ∀ q∈o ++ [(⟨2,0,S⟩ : Part)],eE fr q:=λq hq=>(List.mem_append.1 hq).elim (x2 q) (λh=>by simp at h;subst h;exact hP)
      intro bA;refine ⟨by omega,λHB=>?_⟩;by_cases c2 : 40 < (o.length : Int) + 1
      ·simp [c2]
       intro bB;refine ⟨by omega,λHC=>?_⟩;refine aS (.c _ 3) ⟨o ++ [(⟨2,0,S⟩ : Part)] ++ [⟨1,left,[]⟩],nF hall hLf hF (by omega) (by omega) (by simp;omega) hf0,rfl⟩ ?_;simp;refine ⟨?_,⟨rfl,rfl⟩,ai rfl y5 y6⟩
       rintro row (⟨a,-,rfl⟩ | rfl | rfl)<;>rfl
      ·simp [c2]
       refine Ent.refl ⟨o ++ [(⟨2,0,S⟩ : Part)],left,(room - S.length),HB,_,⟨by simp;omega,hall,hLf,hRm,y5,y6,hF,hT,hT2⟩,by simp;omega,h3,?_⟩;simp [Part.row]<;>omega
    by_cases z1 : z = 1
    ·simp [z1,wl]
     refine aa.cur (al l hl (left + 1)) hu (by simp) rfl y5 y6 (by simp) ?_
     rintro _ i3 h3 ⟨m,hm,rfl⟩ y5 y6
     have hm1:=hm.1;have hm2:=hm.2.2 (by omega);simp;by_cases c1 : 4 < m
     ·have wr:=Go.IntWalk.i64_in (left - 4) (by omega)
      simp [c1,wr];have hP : eE fr (⟨3,4,[]⟩ : Part):=.inl ⟨.inr rfl,by simp;omega,rfl⟩;have hF : (frs (o ++ [(⟨3,4,[]⟩ : Part)]) : Int) + ((left - 4) : Int) = fr:=by rw [bZ];(simp [psz];omega)
      have hT : tos (o ++ [(⟨3,4,[]⟩ : Part)]) + (room : Nat)<=frs (o ++ [(⟨3,4,[]⟩ : Part)]) + 12:=by rw [bZ,eO];(simp [psz];omega)
      have hT2 : pts (o ++ [(⟨3,4,[]⟩ : Part)]) + (room : Nat)<=12:=by rw [eP];(simp;omega)
      have hLf : 0<=((left - 4) : Int)/\((left - 4) : Int)<=fr:=(by omega);have hRm : (room : Nat)<=12:=x4;have hall : ∀ q∈o ++ [(⟨3,4,[]⟩ : Part)],eE fr q:=λq hq=>(List.mem_append.1 hq).elim (x2 q) (λh=>by simp at h;subst h;exact hP)
      intro bA;refine ⟨by omega,λHB=>?_⟩;by_cases c2 : 40 < (o.length : Int) + 1
      ·simp [c2]
       intro bB;refine ⟨by omega,λHC=>?_⟩;refine aS (.c _ 3) ⟨o ++ [(⟨3,4,[]⟩ : Part)] ++ [⟨1,(left - 4),[]⟩],nF hall hLf hF (by omega) (by omega) (by simp;omega) hf0,rfl⟩ ?_;simp;refine ⟨?_,⟨rfl,rfl⟩,ai rfl y5 y6⟩
       rintro row (⟨a,-,rfl⟩ | rfl | rfl)<;>rfl
      ·simp [c2]
       refine Ent.refl ⟨o ++ [(⟨3,4,[]⟩ : Part)],(left - 4),room,HB,_,⟨by simp;omega,hall,hLf,hRm,y5,y6,hF,hT,hT2⟩,by simp;omega,h3,?_⟩;simp [Part.row]<;>omega
     ·have wr:=Go.IntWalk.i64_in (left - m) (by omega)
      simp [c1,wr];have hP : eE fr (⟨3,m,[]⟩ : Part):=.inl ⟨.inr rfl,by simp;omega,rfl⟩;have hF : (frs (o ++ [(⟨3,m,[]⟩ : Part)]) : Int) + ((left - m) : Int) = fr:=by rw [bZ];(simp [psz];omega)
      have hT : tos (o ++ [(⟨3,m,[]⟩ : Part)]) + (room : Nat)<=frs (o ++ [(⟨3,m,[]⟩ : Part)]) + 12:=by rw [bZ,eO];(simp [psz];omega)
      have hT2 : pts (o ++ [(⟨3,m,[]⟩ : Part)]) + (room : Nat)<=12:=by rw [eP];(simp;omega)
      have hLf : 0<=((left - m) : Int)/\((left - m) : Int)<=fr:=(by omega);have hRm : (room : Nat)<=12:=x4;have hall : ∀ q∈o ++ [(⟨3,m,[]⟩ : Part)],eE fr q:=λq hq=>(List.mem_append.1 hq).elim (x2 q) (λh=>by simp at h;subst h;exact hP)
      intro bA;refine ⟨by omega,λHB=>?_⟩;by_cases c2 : 40 < (o.length : Int) + 1
      ·simp [c2]
       intro bB;refine ⟨by omega,λHC=>?_⟩;refine aS (.c _ 3) ⟨o ++ [(⟨3,m,[]⟩ : Part)] ++ [⟨1,(left - m),[]⟩],nF hall hLf hF (by omega) (by omega) (by simp;omega) hf0,rfl⟩ ?_;simp;refine ⟨?_,⟨rfl,rfl⟩,ai rfl y5 y6⟩
       rintro row (⟨a,-,rfl⟩ | rfl | rfl)<;>rfl
      ·simp [c2]
       refine Ent.refl ⟨o ++ [(⟨3,m,[]⟩ : Part)],(left - m),room,HB,_,⟨by simp;omega,hall,hLf,hRm,y5,y6,hF,hT,hT2⟩,by simp;omega,h3,?_⟩;simp [Part.row]<;>omega
    simp [z0,z1,wl];refine aa.cur (al l hl (left + 1)) hu (by simp) rfl y5 y6 (by simp) ?_
    rintro _ i3 h3 ⟨m,hm,rfl⟩ y5 y6
    have hm1:=hm.1;have hm2:=hm.2.2 (by omega);have wr:=Go.IntWalk.i64_in (left - m) (by omega);simp [wr];have hP : eE fr (⟨1,m,[]⟩ : Part):=.inl ⟨.inl rfl,by simp;omega,rfl⟩;have hF : (frs (o ++ [(⟨1,m,[]⟩ : Part)]) : Int) + ((left - m) : Int) = fr:=by rw [bZ];(simp [psz];omega)
    have hT : tos (o ++ [(⟨1,m,[]⟩ : Part)]) + (room : Nat)<=frs (o ++ [(⟨1,m,[]⟩ : Part)]) + 12:=by rw [bZ,eO];(simp [psz];omega)
    have hT2 : pts (o ++ [(⟨1,m,[]⟩ : Part)]) + (room : Nat)<=12:=by rw [eP];(simp;omega)
    have hLf : 0<=((left - m) : Int)/\((left - m) : Int)<=fr:=(by omega);have hRm : (room : Nat)<=12:=x4;have hall : ∀ q∈o ++ [(⟨1,m,[]⟩ : Part)],eE fr q:=λq hq=>(List.mem_append.1 hq).elim (x2 q) (λh=>by simp at h;subst h;exact hP)
    intro bA;refine ⟨by omega,λHB=>?_⟩;by_cases c2 : 40 < (o.length : Int) + 1
    ·simp [c2]
     intro bB;refine ⟨by omega,λHC=>?_⟩;refine aS (.c _ 3) ⟨o ++ [(⟨1,m,[]⟩ : Part)] ++ [⟨1,(left - m),[]⟩],nF hall hLf hF (by omega) (by omega) (by simp;omega) hf0,rfl⟩ ?_;simp;refine ⟨?_,⟨rfl,rfl⟩,ai rfl y5 y6⟩
     rintro row (⟨a,-,rfl⟩ | rfl | rfl)<;>rfl
    ·simp [c2]
     refine Ent.refl ⟨o ++ [(⟨1,m,[]⟩ : Part)],(left - m),room,HB,_,⟨by simp;omega,hall,hLf,hRm,y5,y6,hF,hT,hT2⟩,by simp;omega,h3,?_⟩;simp [Part.row]<;>omega
  | false =>
    simp;refine aS (.c _ 3) ⟨o,⟨by omega,λp hp=>(x2 p hp).b hf0,x2,by omega,by omega,by omega⟩,rfl⟩ ?_;simp;exact ai rfl x5 x6
attribute [local simp ↓] Hn
def mm (p : Part) : Prop:=(-9223372036854775808<=p.kind/\p.kind<=9223372036854775807)/\(-9223372036854775808<=p.n/\p.n<=9223372036854775807)/\p.signs.length<=4/\∀ x∈p.signs,-9223372036854775808<=x/\x<=9223372036854775807
theorem yk.any {fr : Int} (hf : fr<=2 ^ 40) {p : Part} (h : yk fr p) : mm p:=by
 obtain ⟨h1,h2,h3,h4⟩:=h;exact ⟨by omega,by omega,by omega,λx hx=>by have:=h4 x hx;unfold fN at this;omega⟩
theorem Fd {o : List Part} {k : Nat} {q : Part} (_hk : k < o.length) (hp : ∀ p∈o,mm p) (hq : mm q) : ∀ p∈o.set k q,mm p:=λp h=>(List.mem_or_eq_of_mem_set h).elim (hp p) (λe=>e ▸ hq)
theorem yH (l : List UInt8) (hl : l.length<=2 ^ 40) : gg Tryz.prog 141 (l.map eS) 312 [] (Lz λo=>o.length<=44/\∀ p∈o,mm p):=by
 refine gg.intro ae Tryz.func312 (by kernel_rfl) rfl rfl rfl (Nat.le_of_ble_eq_true rfl) (λw0 base b u i h hi0 hi1 hu=>?_);have hi1 : i<=(l.length : Int):=by simpa using hi1
 simp;refine aa.cur (al l hl 12) hu (by simp) rfl hi0 hi1 (by simp) ?_
 rintro _ i1 h1 ⟨x,hx,rfl⟩ g0 g1
 have hx1:=hx.1;have hx2:=hx.2.2 (by omega);simp;refine aa.cur (vm l hl x hx1 (by omega)) hu (by simp) rfl g0 g1 (by simp) ?_
 rintro _ i2 h2 ⟨o,⟨ho,hp,-⟩,rfl⟩ g0 g1
 have hpB:=hp;have hp : ∀ p∈o,mm p:=λp h=>(hp p h).any (by omega)
 simp;intro H;by_cases c0 : o = []
 ·subst c0
  simp;refine aS (.c _ 3) ⟨[],⟨by simp,by simp⟩,rfl⟩ ?_;simp;exact ai rfl g0 g1
 have hpos : 0 < o.length:=List.length_pos_iff.2 c0;simp [c0];refine aa.cur (al l hl o.length) hu (by simp) rfl g0 g1 (by simp) ?_
 rintro _ i3 h3 ⟨k,hk,rfl⟩ g0 g1
 obtain ⟨k,rfl⟩ : ∃ n : Nat,k = n:=⟨k.toNat,by have:=hk.1;omega⟩;have hk : k < o.length:=by have:=hk.2.2 (by omega);omega
 simp;refine aa.cur (al l hl 12) hu (by simp) rfl g0 g1 (by simp) ?_
 rintro _ i4 h4 ⟨z,hz,rfl⟩ g0 g1
 simp;by_cases z0 : z = 0
 ·simp [z0]
  refine aa.cur (na l hl 1 3 (by omega) (by omega)) hu (by simp) rfl g0 g1 (by simp) ?_
  rintro _ i5 h5 ⟨y,hy,rfl⟩ g0 g1
  have hm:=hJ (F:=o) (m:=k) hk (g:=λrow=>eD row 0 [CD.v (Value.int IntKind.i64 y)]) (p:=⟨y,o[k].n,o[k].signs⟩) (by simp [Part.row]);simp [hk];refine aS (.c _ 3) ⟨o.set k ⟨y,o[k].n,o[k].signs⟩,⟨by simp;omega,Fd hk hp ⟨hy,(hp _ (List.getElem_mem hk)).2⟩⟩,rfl⟩ ?_;have hset : (o.set k ⟨y,o[k].n,o[k].signs⟩).map Part.row = (o.map Part.row).set k (Part.row ⟨y,o[k].n,o[k].signs⟩):=List.map_set;simp [hm];refine ⟨?_,ai rfl g0 g1⟩;intro a ha;rw [<- hset] at ha;obtain ⟨p,-,rfl⟩:=List.mem_map.1 ha;rfl
 by_cases z1 : z = 1
 ·simp [z1]
  refine aa.cur (na l hl 0 200 (by omega) (by omega)) hu (by simp) rfl g0 g1 (by simp) ?_
  rintro _ i5 h5 ⟨y,hy,rfl⟩ g0 g1
  have hm:=hJ (F:=o) (m:=k) hk (g:=λrow=>eD row 1 [CD.v (Value.int IntKind.i64 y)]) (p:=⟨o[k].kind,y,o[k].signs⟩) (by simp [Part.row]);simp [hk];refine aS (.c _ 3) ⟨o.set k ⟨o[k].kind,y,o[k].signs⟩,⟨by simp;omega,Fd hk hp ⟨(hp _ (List.getElem_mem hk)).1,hy,(hp _ (List.getElem_mem hk)).2.2⟩⟩,rfl⟩ ?_;have hset : (o.set k ⟨o[k].kind,y,o[k].signs⟩).map Part.row = (o.map Part.row).set k (Part.row ⟨o[k].kind,y,o[k].signs⟩):=List.map_set;simp [hm];refine ⟨?_,ai rfl g0 g1⟩;intro a ha;rw [<- hset] at ha;obtain ⟨p,-,rfl⟩:=List.mem_map.1 ha;rfl
 by_cases z2 : z = 2
 ·simp [z2]
  refine am.open (λ_ h=>h) (k:=128) (i:=k) (j:=2) (k':=60000) (sz':=1) (sz:=3) (H:=H) (rows:=o.map Part.row) (srows:=o[k].signs.map ak) (row:=o[k].row) (by simp) (by simp [hk]) rfl (by simp) (by decide) (by simp [ak]) (by simp) (λG=>?_);have hrow : (iV (o.map Part.row) k 2 (CD.h 60000 G 1 o[k].signs.length))[k]'(by rw [it];simpa using hk) = [vi o[k].kind,vi o[k].n,CD.h 60000 G 1 o[k].signs.length]:=by simp [iV,Part.row]
  refine drw eok mix [0,1,2,3,4,5,6,7,11,12] [8,9,10,13] (.c 10 8 4 1019 (.c 10 9 0 1019 (.c 10 10 8 1011 (.c 10 13 1009 2 (.l 10 2) .s) .s) .s) .s) ?_;simp [hk,hrow]
  try intros
  refine aa.cur (na l hl 0 1114111 (by omega) (by omega)) hu (by simp) rfl g0 g1 (by simp) ?_;rintro _ i5 h5 ⟨y,hy,rfl⟩ g0 g1;simp [hk,hrow]
  try intros
  have hps:=hp _ (List.getElem_mem hk);have hp3:=(hpB _ (List.getElem_mem hk)).2.2.1;refine ⟨by omega,λHA=>?_⟩
  have hm : (iV (o.map Part.row) k 2 (CD.h 60000 G 1 o[k].signs.length)).modify k (λrow=>eD row 2 [CD.s (o[k].signs.map ak ++ [[CD.v (Value.int IntKind.i64 y)]])]) = (o.set k ⟨o[k].kind,o[k].n,o[k].signs ++ [y]⟩).map Part.row:=by
   apply List.ext_getElem (by simp [it])
   intro q h1 h2;by_cases hq : k = q
   ·subst hq
    simp [iV,Part.row]
   ·simp [iV,hq]
  have hset : (o.set k ⟨o[k].kind,o[k].n,o[k].signs ++ [y]⟩).map Part.row = (o.map Part.row).set k (Part.row ⟨o[k].kind,o[k].n,o[k].signs ++ [y]⟩):=List.map_set;rw [hm];refine aS (.c _ 3) ⟨o.set k ⟨o[k].kind,o[k].n,o[k].signs ++ [y]⟩,⟨by simp;omega,Fd hk hp ⟨hps.1,hps.2.1,by simp;omega,λq hq=>(List.mem_append.1 hq).elim (hps.2.2.2 q) (λh=>by simp at h;subst h;exact hy)⟩⟩,rfl⟩ ?_;simp;refine ⟨?_,ai rfl g0 g1⟩;intro a ha;rw [<- hset] at ha;obtain ⟨p,-,rfl⟩:=List.mem_map.1 ha;rfl
 by_cases z3 : z = 3
 ·simp [z3]
  refine aa.cur (al l hl 2) hu (by simp) rfl g0 g1 (by simp) ?_
  rintro _ i5 h5 ⟨y,hy,rfl⟩ g0 g1
  simp;intro bA;refine ⟨by omega,λHA=>?_⟩;have hy1:=hy.1;have hy2:=hy.2.2 (by omega);refine aS (.c _ 3) ⟨o ++ [⟨1,200,[]⟩,⟨3,y,[]⟩],⟨by simp;omega,λq hq=>(List.mem_append.1 hq).elim (hp q) (λh=>by simp at h;rcases h with rfl | rfl<;>exact ⟨by simp,by refine ⟨?_,?_⟩<;>simp<;>omega,by simp,by simp⟩)⟩,rfl⟩ ?_;simp [Part.row];refine ⟨?_,ai rfl g0 g1⟩
  rintro row (⟨a,-,rfl⟩ | rfl | rfl)<;>rfl
 simp [z0,z1,z2,z3];refine aS (.c _ 3) ⟨o,⟨by omega,hp⟩,rfl⟩ ?_;simp;exact ai rfl g0 g1
theorem p5 (l : List UInt8) (hl : l.length<=2 ^ 40) (d : Doc) (hd : cu d<=2 ^ 30) (hf : -9223372036854775808<=d.fr/\d.fr<=9223372036854775807) :
 gg Tryz.prog 141 (l.map eS) 230 [.agg d.row] (Ct λx=>-9223372036854775808<=x/\x<=9223372036854775807):=by
 refine gg.intro ae Tryz.func230 (by kernel_rfl) rfl rfl rfl (Nat.le_of_ble_eq_true rfl) (λw0 base b u i h hi0 hi1 hu=>?_);have hi1 : i<=(l.length : Int):=by simpa using hi1
 obtain ⟨n1,n2,n3,n4⟩:=ce hd;have hle:=aA n1;have hs:=aN d;have hh : -9223372036854775808<=ac d/\ac d<=9223372036854775807:=pJ _;have wl:=Go.IntWalk.i64_in ((d.list.length : Int) + 1) (by omega);generalize ac d = hr at hs hh;simp [Doc.row];intro b3;refine aa.cur (gn l hl 6) hu (by simp) rfl hi0 hi1 (by simp) ?_
 rintro _ i1 h1 ⟨q,rfl⟩ g0 g1
 simp
 cases q with
 | true =>
   simp;refine drw eok mix [0,1,2,3] [4,5,6] (.c 4 4 1 14 (.c 4 5 10 4 (.c 4 6 4 0 (.l 4 0) .s) .s) .s) ?_;simp
   try intros
   refine aa.pure (hs) (by simp [Doc.row]) ?_;simp
   try intros
   refine aa.cur (na l hl d.fr hr hf hh) hu (by simp) rfl g0 g1 (by simp) ?_;rintro _ i2 h2 ⟨y,hy,rfl⟩ g0 g1;simp
   try intros
   refine aS (.c _ 1) ⟨y,hy,rfl⟩ ?_;simp;exact ai rfl g0 g1
 | false =>
   simp;refine drw eok mix [0,2,3,4,5,6] [1,7,8,9] (.c 6 1 32 31 (.c 6 7 17 14 (.c 6 8 0 14 (.c 6 9 14 0 (.l 6 0) .s) .s) .s) .s) ?_;simp [wl]
   try intros
   refine aa.pure (hs) (by simp [Doc.row]) ?_;simp
   try intros
   refine aa.cur (al l hl ((d.list.length : Int) + 1)) hu (by simp) rfl g0 g1 (by simp) ?_;rintro _ i2 h2 ⟨y,hy,rfl⟩ g0 g1;simp
   try intros
   refine aS (.c _ 1) ⟨_,pJ (hr - y),rfl⟩ ?_;simp;exact ai rfl g0 g1
theorem m7 (l : List UInt8) (hl : l.length<=2 ^ 40) (d : Doc) (hd : cu d<=2 ^ 30) (rev : Int) :
 gg Tryz.prog 141 (l.map eS) 232 [.agg d.row,.c (vi rev)] (Lz λo=>o.length<=44/\∀ p∈o,mm p):=by
 refine gg.intro ae Tryz.func232 (by kernel_rfl) rfl rfl rfl (Nat.le_of_ble_eq_true rfl) (λw0 base b u i h hi0 hi1 hu=>?_);have hi1 : i<=(l.length : Int):=by simpa using hi1
 have hs:=ld d hd rev;have ht:=zK d rev;generalize dL d rev = tx at hs ht;obtain ⟨t,ok⟩:=tx;simp only at hs ht;simp [Doc.row];intro b4;refine aa.pure hs (by simp [Doc.row]) ?_;simp;intro Ht
 cases ok with
 | false =>
   simp;refine aa.cur (yH l hl) hu (by simp) rfl hi0 hi1 (by simp) ?_
   rintro _ i2 h2 ⟨o,hp,rfl⟩ g0 g1
   simp;intro Ho;refine aS (.c _ 3) ⟨o,hp,rfl⟩ ?_;simp;exact ai rfl g0 g1
 | true =>
   simp;refine aa.cur (gn l hl 10) hu (by simp) rfl hi0 hi1 (by simp) ?_
   rintro _ i1 h1 ⟨q,rfl⟩ hi0 hi1
   simp
   cases q with
   | true =>
     simp;refine aa.cur (yH l hl) hu (by simp) rfl hi0 hi1 (by simp) ?_
     rintro _ i2 h2 ⟨o,hp,rfl⟩ g0 g1
     simp;intro Ho;refine aS (.c _ 3) ⟨o,hp,rfl⟩ ?_;simp;exact ai rfl g0 g1
   | false =>
     simp;refine aa.cur (vm l hl t.length (by omega) (by omega)) hu (by simp) rfl hi0 hi1 (by simp) ?_
     rintro _ i2 h2 ⟨o,⟨ho,hp,-⟩,rfl⟩ g0 g1
     simp;intro Ho;refine aS (.c _ 3) ⟨o,⟨by omega,λp hq=>(hp p hq).any (by omega)⟩,rfl⟩ ?_;simp;exact ai rfl g0 g1
set_option maxHeartbeats 12800000
def OQ (p : Hub->Prop) (rr : RR) : Prop:=∃ h : Hub,p h/\rr = .one (.agg h.res)
theorem oP {o : List Part} (h : o.length<=44) (hp : ∀ p∈o,mm p) : nL aF o<=2 ^ 40:=by
 have:=nN (f:=aF) (l:=o) (B:=2 ^ 20) (λp hq=>by have:=hp p hq;unfold mm at this;unfold aF;omega);omega
theorem BX (l : List UInt8) (hl : l.length<=2 ^ 40) (a : Hub) (ok : an a) : oE Tryz.prog 141 (l.map eS) 206 [.agg a.row] (OQ an):=by
 refine oE.intro ae Tryz.func206 (by kernel_rfl) rfl rfl rfl (Nat.le_of_ble_eq_true rfl) (λw0 base o b u i h hi0 hi1 hu=>?_);have hi1 : i<=(l.length : Int):=by simpa using hi1
 have hn : ch a<=2 ^ 28:=Nat.le_trans (eL ok).1 (by decide);simp [Hub.row];intro b3 b4 b5;refine aa.cur (al l hl 10) hu (by simp) rfl hi0 hi1 (by simp) ?_
 rintro _ i1 h1 ⟨z,hz,rfl⟩ g0 g1
 simp;by_cases z0 : z = 0
 ·simp [z0]
  refine drw eok mix [0,1,3] [2,4,5,6,7,8,9,10] (.c 3 2 2 5 (.c 3 4 1 4 (.c 3 5 4 0 (.c 3 6 0 0 (.c 3 7 0 0 (.c 3 8 0 0 (.c 3 9 0 0 (.c 3 10 0 0 (.l 3 0) .s) .s) .s) .s) .s) .s) .s) .s) ?_;simp
  try intros
  refine bH (m8 l hl).toN hu (by simp) rfl g0 g1 (by simp) ?_;rintro _ i2 h2 ⟨s,hs,rfl⟩ g0 g1;simp
  try intros
  refine bH (hU l hl 6 (by omega) (by omega)).toN hu (by simp) rfl g0 g1 (by simp) ?_;rintro _ i3 h3 ⟨t,ht,rfl⟩ g0 g1;simp
  try intros
  have ho:=mE (h:=a) (name:=s) (t:=t);have hc:=ik a hn s (by have:=hs.1;omega) t (by have:=ht.1;omega);generalize ba a s t = r at ho hc;obtain ⟨x,code⟩:=r;refine aa.ro hc (by simp [Hub.row]) ?_;simp [Hub.res]
  try intros
  by_cases hz : code = 0
  ·simp [hz]
   refine ⟨_,⟨x,(ho hz).1,rfl⟩,?_,ai rfl g0 g1⟩;simp [Hub.res]
  ·simp [hz]
   refine ⟨_,⟨a,ok,rfl⟩,?_,ai rfl g0 g1⟩;simp [Hub.res]
 by_cases z1 : z = 1
 ·simp [z1]
  refine drw eok mix [0,1,3] [2,4,5,6,7,8,9,10,11,12] (.c 3 2 2 5 (.c 3 4 1 4 (.c 3 5 0 4 (.c 3 6 4 0 (.c 3 7 0 0 (.c 3 8 0 0 (.c 3 9 0 0 (.c 3 10 0 0 (.c 3 11 0 0 (.c 3 12 0 0 (.l 3 0) .s) .s) .s) .s) .s) .s) .s) .s) .s) .s) ?_;simp
  try intros
  refine bH (m8 l hl).toN hu (by simp) rfl g0 g1 (by simp) ?_;rintro _ i2 h2 ⟨s,hs,rfl⟩ g0 g1;simp
  try intros
  refine aa.cur (al l hl 3) hu (by simp) rfl g0 g1 (by simp) ?_;rintro _ i3 h3 ⟨y,hy,rfl⟩ g0 g1;have wy:=Go.IntWalk.i64_in (1 + y) (by have:=hy.1;have:=hy.2;omega);simp
  try intros
  have ho:=kR (h:=a) (name:=s) (room:=1 + y);have hc:=jn a hn s (1 + y);generalize aw a s (1 + y) = r at ho hc;obtain ⟨x,id,code⟩:=r;refine aa.ro hc (by simp [Hub.row,wy]) ?_;simp [Hub.res]
  try intros
  by_cases hz : code = 0
  ·simp [hz]
   refine ⟨_,⟨x,(ho hz).1,rfl⟩,?_,ai rfl g0 g1⟩;simp [Hub.res]
  ·simp [hz]
   refine ⟨_,⟨a,ok,rfl⟩,?_,ai rfl g0 g1⟩;simp [Hub.res]
 by_cases z2 : z = 2
 ·simp [z2]
  refine drw eok mix [0,1,3] [2,4,5,6,7,8,9,10,11,12] (.c 3 2 2 5 (.c 3 4 1 4 (.c 3 5 0 4 (.c 3 6 4 0 (.c 3 7 0 0 (.c 3 8 0 0 (.c 3 9 0 0 (.c 3 10 0 0 (.c 3 11 0 0 (.c 3 12 0 0 (.l 3 0) .s) .s) .s) .s) .s) .s) .s) .s) .s) .s) ?_;simp
  try intros
  refine aa.cur (al l hl 5) hu (by simp) rfl g0 g1 (by simp) ?_;rintro _ i2 h2 ⟨q,hq,rfl⟩ g0 g1;simp
  try intros
  refine aa.cur (al l hl 2) hu (by simp) rfl g0 g1 (by simp) ?_;rintro _ i3 h3 ⟨y,hy,rfl⟩ g0 g1;have wy:=Go.IntWalk.i64_in (1 + y) (by have:=hy.1;have:=hy.2;omega);simp
  try intros
  have ho:=ra (h:=a) (id:=q) (n:=1 + y);have hc:=nK a hn q (1 + y);generalize bC a q (1 + y) = r at ho hc;obtain ⟨x,es,code⟩:=r;refine aa.ro hc (by simp [Hub.row,wy]) ?_;simp [Hub.res]
  try intros
  by_cases hz : code = 0
  ·simp [hz]
   refine ⟨_,⟨x,(ho hz).1,rfl⟩,?_,ai rfl g0 g1⟩;simp [Hub.res]
  ·simp [hz]
   refine ⟨_,⟨a,ok,rfl⟩,?_,ai rfl g0 g1⟩;simp [Hub.res]
 by_cases z3 : z = 3
 ·simp [z3]
  refine drw eok mix [0,1] [2,3,4,5,6,7,8,9,10] (.c 2 2 1 2 (.c 2 3 2 0 (.c 2 4 0 0 (.c 2 5 0 0 (.c 2 6 0 0 (.c 2 7 0 0 (.c 2 8 0 0 (.c 2 9 0 0 (.c 2 10 0 0 (.l 2 0) .s) .s) .s) .s) .s) .s) .s) .s) .s) ?_;simp
  try intros
  refine aa.cur (al l hl 5) hu (by simp) rfl g0 g1 (by simp) ?_;rintro _ i2 h2 ⟨q,hq,rfl⟩ g0 g1;simp
  try intros
  have ho:=nV (h:=a) (id:=q);have hc:=lP a hn q;generalize aM a q = r at ho hc;obtain ⟨x,tx,rv,code⟩:=r;refine aa.ro hc (by simp [Hub.row]) ?_;simp [Hub.res]
  try intros
  by_cases hz : code = 0
  ·simp [hz]
   refine ⟨_,⟨x,(ho hz).1,rfl⟩,?_,ai rfl g0 g1⟩;simp [Hub.res]
  ·simp [hz]
   refine ⟨_,⟨a,ok,rfl⟩,?_,ai rfl g0 g1⟩;simp [Hub.res]
 simp [z0,z1,z2,z3];by_cases e0 : a.docs = []
 ·simp [e0]
  refine ⟨_,⟨a,ok,rfl⟩,?_,ai rfl g0 g1⟩;simp [Hub.res,e0]
 simp [e0];have hpos : 0 < a.docs.length:=List.length_pos_iff.2 e0;refine drw eok mix [0,1,2,3,4,5] [6,7,8,9,10] (.c 6 6 9 54 (.c 6 7 16 38 (.c 6 8 0 38 (.c 6 9 0 38 (.c 6 10 38 0 (.l 6 0) .s) .s) (.c 6 9 0 38 (.c 6 8 0 38 (.c 6 10 38 0 (.l 6 0) .s) .s) .s)) (.c 6 9 0 54 (.c 6 7 16 38 (.c 6 8 0 38 (.c 6 10 38 0 (.l 6 0) .s) .s) .s) .s)) (.c 6 9 0 63 (.c 6 6 9 54 (.c 6 7 16 38 (.c 6 8 0 38 (.c 6 10 38 0 (.l 6 0) .s) .s) .s) .s) .s)) ?_;simp
 try intros
 rw [Trc];refine ⟨?_,?_⟩
 ·skip
  simp
  try intros
  refine aa.cur (al l hl a.docs.length) hu (by simp) rfl g0 g1 (by simp) ?_;rintro _ i2 h2 ⟨kk,hkk,rfl⟩ g0 g1;obtain ⟨k,rfl⟩ : ∃ k : Nat,kk = (k : Int):=⟨kk.toNat,by have:=hkk.1;omega⟩;have hk : k < a.docs.length:=(by have:=hkk.2.2 (by omega);omega);obtain ⟨d,hd⟩ : ∃ d,a.docs[k] = d:=⟨_,rfl⟩;simp
  try intros
  rw [Trc];refine ⟨?_,?_⟩
  ·skip
   simp [hk,hd,Doc.row]
   try intros
   rw [Trc];refine ⟨?_,?_⟩
   ·skip
    simp
    try intros
    have dok : aL d:=hd ▸ cj ok hk;have dn:=iq dok;have hh:=aV dok;refine aa.cur (al l hl 3) hu (by simp) rfl g0 g1 (by simp) ?_
    rintro _ i3 h3 ⟨y,hy,rfl⟩ g0 g1
    have hy1:=hy.1;have hy2:=hy.2.2 (by omega);have wy:=Go.IntWalk.i64_in (1 + y) (by omega);simp [wy];have hsb:=jp dok (1 + y);have hsc:=fF d (by omega) (1 + y);generalize ca d (1 + y) = q at hsb hsc;obtain ⟨sn,sb⟩:=q;simp only at hsb hsc;refine aa.ro hsc (by simp [Doc.row]) ?_;simp [Seen.res];intro b9;have wl:=Go.IntWalk.i64_in ((d.list.length : Int) + 1) (by omega);have wsq:=Go.IntWalk.i64_in (sn.seq + 1) (by omega);refine drw eok mix [0,2,3,4,5,6] [1,7,8,9] (.c 6 1 32 31 (.c 6 7 17 14 (.c 6 8 0 14 (.c 6 9 14 0 (.l 6 0) .s) .s) .s) .s) ?_;simp [wl]
    try intros
    refine aa.ro (aN d) (by simp [Doc.row]) ?_;simp
    try intros
    refine aa.cur (al l hl ((d.list.length : Int) + 1)) hu (by simp) rfl g0 g1 (by simp) ?_;rintro _ i4 h4 ⟨bb,hbb,rfl⟩ g0 g1;simp
    try intros
    generalize Go.IntKind.i64.wrap (ac d - bb) = rv;refine drw eok mix [0,1,2,3,4,5,6,7,8,9,10] [11,12,13,14,15,16,17,18] (.c 11 11 7 2040 (.c 11 12 1432 608 (.c 11 13 0 608 (.c 11 14 0 608 (.c 11 15 0 608 (.c 11 16 0 608 (.c 11 17 608 0 (.c 11 18 0 0 (.l 11 0) .s) .s) .s) .s) .s) .s) .s) .s) ?_;simp [wsq]
    try intros
    refine bH (m7 l hl d (by omega) rv).toN hu (by simp) rfl g0 g1 (by simp [Doc.row]) ?_;rintro _ i5 h5 ⟨op,⟨hol,hop⟩,rfl⟩ g0 g1;simp
    try intros
    have ho:=fU (h:=a) (name:=d.name) (client:=1 + y) (seq:=sn.seq + 1) (base:=rv) (o:=op);have hc:=dM a hn d.name (1 + y) (sn.seq + 1) rv op (oP hol hop);generalize aG a d.name (1 + y) (sn.seq + 1) rv op = r at ho hc;obtain ⟨x,nr,code⟩:=r;refine aa.ro hc (by simp [Hub.row]) ?_;simp [Hub.res]
    try intros
    by_cases hz : code = 0
    ·simp [hz]
     refine ⟨_,⟨x,(ho hz).1,rfl⟩,?_,ai rfl g0 g1⟩;simp [Hub.res]
    ·simp [hz]
     refine ⟨_,⟨a,ok,rfl⟩,?_,ai rfl g0 g1⟩;simp [Hub.res]
   ·skip
    simp
    try intros
    have dok : aL d:=hd ▸ cj ok hk;have dn:=iq dok;have hh:=aV dok;refine aa.cur (al l hl 3) hu (by simp) rfl g0 g1 (by simp) ?_
    rintro _ i3 h3 ⟨y,hy,rfl⟩ g0 g1
    have hy1:=hy.1;have hy2:=hy.2.2 (by omega);have wy:=Go.IntWalk.i64_in (1 + y) (by omega);simp [wy];have hsb:=jp dok (1 + y);have hsc:=fF d (by omega) (1 + y);generalize ca d (1 + y) = q at hsb hsc;obtain ⟨sn,sb⟩:=q;simp only at hsb hsc;refine aa.ro hsc (by simp [Doc.row]) ?_;simp [Seen.res];intro b9;have wl:=Go.IntWalk.i64_in ((d.list.length : Int) + 1) (by omega);have wsq:=Go.IntWalk.i64_in (sn.seq + 1) (by omega);refine drw eok mix [0,2,3,4,5,6] [1,7,8,9] (.c 6 1 32 31 (.c 6 7 17 14 (.c 6 8 0 14 (.c 6 9 14 0 (.l 6 0) .s) .s) .s) .s) ?_;simp [wl]
    try intros
    refine aa.ro (aN d) (by simp [Doc.row]) ?_;simp
    try intros
    refine aa.cur (al l hl ((d.list.length : Int) + 1)) hu (by simp) rfl g0 g1 (by simp) ?_;rintro _ i4 h4 ⟨bb,hbb,rfl⟩ g0 g1;simp
    try intros
    generalize Go.IntKind.i64.wrap (ac d - bb) = rv;refine drw eok mix [0,1,2,3,4,5,6,7,8,9,10] [11,12,13,14,15,16,17,18] (.c 11 11 7 2040 (.c 11 12 1432 608 (.c 11 13 0 608 (.c 11 14 0 608 (.c 11 15 0 608 (.c 11 16 0 608 (.c 11 17 608 0 (.c 11 18 0 0 (.l 11 0) .s) .s) .s) .s) .s) .s) .s) .s) ?_;simp [wsq]
    try intros
    refine bH (m7 l hl d (by omega) rv).toN hu (by simp) rfl g0 g1 (by simp [Doc.row]) ?_;rintro _ i5 h5 ⟨op,⟨hol,hop⟩,rfl⟩ g0 g1;simp
    try intros
    have ho:=fU (h:=a) (name:=d.name) (client:=1 + y) (seq:=sn.seq + 1) (base:=rv) (o:=op);have hc:=dM a hn d.name (1 + y) (sn.seq + 1) rv op (oP hol hop);generalize aG a d.name (1 + y) (sn.seq + 1) rv op = r at ho hc;obtain ⟨x,nr,code⟩:=r;refine aa.ro hc (by simp [Hub.row]) ?_;simp [Hub.res]
    try intros
    by_cases hz : code = 0
    ·simp [hz]
     refine ⟨_,⟨x,(ho hz).1,rfl⟩,?_,ai rfl g0 g1⟩;simp [Hub.res]
    ·simp [hz]
     refine ⟨_,⟨a,ok,rfl⟩,?_,ai rfl g0 g1⟩;simp [Hub.res]
  ·skip
   simp [hk,hd,Doc.row]
   try intros
   have dok : aL d:=hd ▸ cj ok hk;have dn:=iq dok;have hh:=aV dok;refine aa.cur (al l hl 3) hu (by simp) rfl g0 g1 (by simp) ?_
   rintro _ i3 h3 ⟨y,hy,rfl⟩ g0 g1
   have hy1:=hy.1;have hy2:=hy.2.2 (by omega);have wy:=Go.IntWalk.i64_in (1 + y) (by omega);simp [wy];have hsb:=jp dok (1 + y);have hsc:=fF d (by omega) (1 + y);generalize ca d (1 + y) = q at hsb hsc;obtain ⟨sn,sb⟩:=q;simp only at hsb hsc;refine aa.ro hsc (by simp [Doc.row]) ?_;simp [Seen.res];intro b9;have wl:=Go.IntWalk.i64_in ((d.list.length : Int) + 1) (by omega);have wsq:=Go.IntWalk.i64_in (sn.seq + 1) (by omega);refine drw eok mix [0,2,3,4,5,6] [1,7,8,9] (.c 6 1 32 31 (.c 6 7 17 14 (.c 6 8 0 14 (.c 6 9 14 0 (.l 6 0) .s) .s) .s) .s) ?_;simp [wl]
   try intros
   refine aa.ro (aN d) (by simp [Doc.row]) ?_;simp
   try intros
   refine aa.cur (al l hl ((d.list.length : Int) + 1)) hu (by simp) rfl g0 g1 (by simp) ?_;rintro _ i4 h4 ⟨bb,hbb,rfl⟩ g0 g1;simp
   try intros
   generalize Go.IntKind.i64.wrap (ac d - bb) = rv;refine drw eok mix [0,1,2,3,4,5,6,7,8,9,10] [11,12,13,14,15,16,17,18] (.c 11 11 7 2040 (.c 11 12 1432 608 (.c 11 13 0 608 (.c 11 14 0 608 (.c 11 15 0 608 (.c 11 16 0 608 (.c 11 17 608 0 (.c 11 18 0 0 (.l 11 0) .s) .s) .s) .s) .s) .s) .s) .s) ?_;simp [wsq]
   try intros
   refine bH (m7 l hl d (by omega) rv).toN hu (by simp) rfl g0 g1 (by simp [Doc.row]) ?_;rintro _ i5 h5 ⟨op,⟨hol,hop⟩,rfl⟩ g0 g1;simp
   try intros
   have ho:=fU (h:=a) (name:=d.name) (client:=1 + y) (seq:=sn.seq + 1) (base:=rv) (o:=op);have hc:=dM a hn d.name (1 + y) (sn.seq + 1) rv op (oP hol hop);generalize aG a d.name (1 + y) (sn.seq + 1) rv op = r at ho hc;obtain ⟨x,nr,code⟩:=r;refine aa.ro hc (by simp [Hub.row]) ?_;simp [Hub.res]
   try intros
   by_cases hz : code = 0
   ·simp [hz]
    refine ⟨_,⟨x,(ho hz).1,rfl⟩,?_,ai rfl g0 g1⟩;simp [Hub.res]
   ·simp [hz]
    refine ⟨_,⟨a,ok,rfl⟩,?_,ai rfl g0 g1⟩;simp [Hub.res]
 ·skip
  simp
  try intros
  refine aa.cur (al l hl a.docs.length) hu (by simp) rfl g0 g1 (by simp) ?_;rintro _ i2 h2 ⟨kk,hkk,rfl⟩ g0 g1;obtain ⟨k,rfl⟩ : ∃ k : Nat,kk = (k : Int):=⟨kk.toNat,by have:=hkk.1;omega⟩;have hk : k < a.docs.length:=(by have:=hkk.2.2 (by omega);omega);obtain ⟨d,hd⟩ : ∃ d,a.docs[k] = d:=⟨_,rfl⟩;simp [hk,hd,Doc.row]
  try intros
  have dok : aL d:=hd ▸ cj ok hk;have dn:=iq dok;have hh:=aV dok;refine aa.cur (al l hl 3) hu (by simp) rfl g0 g1 (by simp) ?_
  rintro _ i3 h3 ⟨y,hy,rfl⟩ g0 g1
  have hy1:=hy.1;have hy2:=hy.2.2 (by omega);have wy:=Go.IntWalk.i64_in (1 + y) (by omega);simp [wy];have hsb:=jp dok (1 + y);have hsc:=fF d (by omega) (1 + y);generalize ca d (1 + y) = q at hsb hsc;obtain ⟨sn,sb⟩:=q;simp only at hsb hsc;refine aa.ro hsc (by simp [Doc.row]) ?_;simp [Seen.res];intro b9;have wl:=Go.IntWalk.i64_in ((d.list.length : Int) + 1) (by omega);have wsq:=Go.IntWalk.i64_in (sn.seq + 1) (by omega);refine drw eok mix [0,2,3,4,5,6] [1,7,8,9] (.c 6 1 32 31 (.c 6 7 17 14 (.c 6 8 0 14 (.c 6 9 14 0 (.l 6 0) .s) .s) .s) .s) ?_;simp [wl]
  try intros
  refine aa.ro (aN d) (by simp [Doc.row]) ?_;simp
  try intros
  refine aa.cur (al l hl ((d.list.length : Int) + 1)) hu (by simp) rfl g0 g1 (by simp) ?_;rintro _ i4 h4 ⟨bb,hbb,rfl⟩ g0 g1;simp
  try intros
  generalize Go.IntKind.i64.wrap (ac d - bb) = rv;refine drw eok mix [0,1,2,3,4,5,6,7,8,9,10] [11,12,13,14,15,16,17,18] (.c 11 11 7 2040 (.c 11 12 1432 608 (.c 11 13 0 608 (.c 11 14 0 608 (.c 11 15 0 608 (.c 11 16 0 608 (.c 11 17 608 0 (.c 11 18 0 0 (.l 11 0) .s) .s) .s) .s) .s) .s) .s) .s) ?_;simp [wsq]
  try intros
  refine bH (m7 l hl d (by omega) rv).toN hu (by simp) rfl g0 g1 (by simp [Doc.row]) ?_;rintro _ i5 h5 ⟨op,⟨hol,hop⟩,rfl⟩ g0 g1;simp
  try intros
  have ho:=fU (h:=a) (name:=d.name) (client:=1 + y) (seq:=sn.seq + 1) (base:=rv) (o:=op);have hc:=dM a hn d.name (1 + y) (sn.seq + 1) rv op (oP hol hop);generalize aG a d.name (1 + y) (sn.seq + 1) rv op = r at ho hc;obtain ⟨x,nr,code⟩:=r;refine aa.ro hc (by simp [Hub.row]) ?_;simp [Hub.res]
  try intros
  by_cases hz : code = 0
  ·simp [hz]
   refine ⟨_,⟨x,(ho hz).1,rfl⟩,?_,ai rfl g0 g1⟩;simp [Hub.res]
  ·simp [hz]
   refine ⟨_,⟨a,ok,rfl⟩,?_,ai rfl g0 g1⟩;simp [Hub.res]
theorem yI (l : List UInt8) (_hl : l.length<=2 ^ 40) : Hi Tryz.prog 141 (l.map eS) 107:=by
 refine Hi.intro ae Tryz.func107 (by kernel_rfl) rfl rfl rfl (Nat.le_of_ble_eq_true rfl) (λw0 base u hu=>?_);simp;refine ag eok (λx : Nat × Int=>x.1<=l.length) (λx=>⟨32,0,[(4,.v (.int .i64 x.1)),(3,.v (.int .i64 x.2)),(0,.cv u l.length)],[]⟩) (λx=>l.length - x.1) (0,Go.IntKind.i64.wrap (1621 + (l.length : Int))) (by simp) (by simp) (λx hx=>Ent.refl ?_);obtain ⟨i,h⟩:=x;simp only at hx ⊢;by_cases c : i < l.length
 ·by_cases c2 : i < 4000
  ·have c2' : (i : Int) < 4000:=by omega
   simp [c,c2'];refine ⟨_,hu,?_⟩;simp [c];refine Ent.refl ⟨i + 1,by omega,by omega,?_⟩;simp;exact ah (by omega)
  ·have c2' : ¬ (i : Int) < 4000:=by omega
   simp [c,c2'];exact λb=>⟨496,b,⟨rfl,rfl⟩,_,rfl⟩
 ·simp [c]
  exact λb=>⟨496,b,⟨rfl,rfl⟩,_,rfl⟩
end Go.Proofs.YtoldjebobgocpaaGreat
