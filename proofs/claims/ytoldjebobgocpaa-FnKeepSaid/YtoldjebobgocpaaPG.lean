import Derived.Test.YtoldjebobgocpaaPF
import Derived.Test.YtoldjebobgocpaaPB
import Derived.Test.YtoldjebobgocpaaPC
namespace Go.Proofs.Ytoldjebobgocpaa
open Go.AM
set_option maxRecDepth 20000
set_option maxHeartbeats 3200000
def Is (p : List Int->Prop) (rr : RR) : Prop:=∃ L : List Int,p L/\rr = .one (.c (.s (L.map aN)) 1)
theorem nn (l : List UInt8) (hl : l.length<=2 ^ 40) (most : Int) (hm0 : 0<=most) (hm : most<=1000) : ig Try.prog 74 (l.map dP) 57 [.c (vi most)] (Is λL=>(L.length : Int)<=most/\∀ x∈L,dm x):=by
 refine ig.intro aj Try.func57 (by kernel_rfl) rfl rfl rfl (Nat.le_of_ble_eq_true rfl) (λw0 base b u i h hi0 hi1 hu=>?_);have hi1 : i<=(l.length : Int):=by simpa using hi1
 have hw:=Go.IntWalk.i64_in (most + 1) (by omega);simp [a9,hw];intro b7;refine aa.cur (cG l hl (most + 1)) hu (by simp) rfl hi0 hi1 (by simp) ?_
 rintro _ i1 h1 ⟨n,hn,rfl⟩ g0 g1
 have hn1:=hn.1;have hn2:=hn.2.2 (by omega);obtain ⟨k,rfl⟩ : ∃ k : Nat,n = k:=⟨n.toNat,by omega⟩;simp
 refine aI eok (λx : Nat × List Int × Hd × Int × Int=>(x.2.1.length : Int) + x.1<=most/\(∀ s∈x.2.1,dm s)/\0<=x.2.2.2.1/\x.2.2.2.1<=(l.length : Int))
  (λx=>⟨22,0,[(6,.v (.int .i64 x.1)),(5,.sl 112 x.2.2.1 1 0 x.2.1.length),(0,.p 0 b 0)],[(0,.vars b 74 (a9 u l.length x.2.2.2.1 x.2.2.2.2)),(112,.rows x.2.2.1 1 (x.2.1.map aN) true)]⟩)
  (λx=>x.1) (k,[],some (b7,0,0),i1,h1) (by simp;omega) (by simp) (λx hx=>Ent.refl ?_)
 obtain ⟨m,L,H,i2,h2⟩:=x;obtain ⟨hx1,hx2,hx3,hx4⟩:=hx;simp only at hx1 hx2 hx3 hx4 ⊢;by_cases hm1 : 0 < m
 ·simp [hm1]
  refine aa.cur (wd l hl) hu (by simp) rfl hx3 hx4 (by simp) ?_
  rintro _ i3 h3 ⟨s,hs,rfl⟩ g2 g3
  simp;intro b19;refine ⟨by omega,λH2=>Ent.refl ?_⟩;have hw2:=Go.IntWalk.i64_in ((m : Int) - 1) (by omega);refine ⟨m - 1,L ++ [s],H2,i3,⟨by simp;omega,?_,g2,g3⟩,by omega,h3,by simp [hw2];omega⟩;intro y hy;rcases List.mem_append.1 hy with hy | hy
  ·exact hx2 y hy
  ·simp at hy;subst hy;exact hs
 ·have : m = 0:=by omega
  subst this;simp;refine bn (.c _ 1) ⟨L,⟨by omega,hx2⟩,rfl⟩ ?_;simp;exact bo rfl hx3 hx4
set_option maxHeartbeats 6400000
def yd (fr : Int) (p : Part) : Prop:=(1<=p.kind/\p.kind<=3)/\(0<=p.n/\p.n<=fr)/\p.signs.length<=3/\∀ x∈p.signs,dm x
def cS (fr : Int) (p : Part) : Prop:=((p.kind = 1\/p.kind = 3)/\(0<=p.n/\p.n<=fr)/\p.signs = [])\/(p.kind = 2/\p.n = 0/\p.signs.length<=3/\cL p.signs)
theorem cS.b {fr : Int} (h0 : 0<=fr) {p : Part} (h : cS fr p) : yd fr p:=by
 rcases h with ⟨h1,h2,h3⟩ | ⟨h1,h2,h3,h4⟩
 ·exact ⟨by omega,h2,by simp [h3],by simp [h3]⟩
 ·exact ⟨by omega,by omega,h3,h4⟩
def opD (fr : Int) (o : List Part) : Prop:=(∀ p∈o,cS fr p)/\(frs o : Int) = fr/\tos o<=frs o + 12
theorem aZ (p : Part) : ∀ o : List Part,frs (o ++ [p]) = frs o + (if p.kind = 2 then 0 else psz p)
 | []=>by simp [frs]
 | q :: o=>by simp only [List.cons_append,frs,aZ p o];omega
theorem df (p : Part) : ∀ o : List Part,tos (o ++ [p]) = tos o + (if p.kind = 3 then 0 else psz p)
 | []=>by simp [tos]
 | q :: o=>by simp only [List.cons_append,tos,df p o];omega
theorem opD.ok {fr : Int} {o : List Part} (h : opD fr o) (h0 : 0<=fr) (h1 : fr<=188) (hl : o.length<=42) : aK o/\az o = fr/\bI o<=fr + 12:=by
 have hp : ∀ p∈o,ag p:=λp hp=>by
  rcases h.1 p hp with ⟨h1,h2,h3⟩ | ⟨h1,h2,h3,h4⟩
  ·exact .inl ⟨h1,by omega,h3⟩
  ·exact .inr ⟨h1,h2,by omega,h4⟩
 have hps : dr o:=⟨hp,by omega⟩;have f:=m6 hps;have t:=rI hps;have:=h.2;exact ⟨⟨hps,by omega,by omega⟩,by omega,by omega⟩
def FH (p : List Part->Prop) (rr : RR) : Prop:=∃ L : List Part,p L/\rr = .one (.c (.s (L.map Part.row)) 3)
theorem jt {fr : Int} {o : List Part} {lf : Int} (h : ∀ q∈o,cS fr q) (hl : 0<=lf/\lf<=fr) (hf : (frs o : Int) + lf = fr) (ht : tos o<=frs o + 12) (hn : o.length<=41) (h0 : 0<=fr) :
 (o ++ [(⟨1,lf,[]⟩ : Part)]).length<=42/\(∀ p∈o ++ [(⟨1,lf,[]⟩ : Part)],yd fr p)/\opD fr (o ++ [(⟨1,lf,[]⟩ : Part)]):=by
 have hall : ∀ q∈o ++ [(⟨1,lf,[]⟩ : Part)],cS fr q:=λq hq=>(List.mem_append.1 hq).elim (h q) (λh=>by simp at h;subst h;exact Or.inl ⟨Or.inl rfl,hl,rfl⟩)
 refine ⟨by simp;omega,λp hp=>(hall p hp).b h0,hall,?_,?_⟩
 ·rw [aZ];simp [psz];omega
 ·rw [aZ,df];simp [psz];omega
theorem wb (l : List UInt8) (hl : l.length<=2 ^ 40) (fr : Int) (hf0 : 0<=fr) (hf : fr<=2 ^ 40) : ig Try.prog 74 (l.map dP) 30 [.c (vi fr)] (FH λo=>o.length<=42/\(∀ p∈o,yd fr p)/\opD fr o):=by
 refine ig.intro aj Try.func30 (by kernel_rfl) rfl rfl rfl (Nat.le_of_ble_eq_true rfl) (λw0 base b u i h hi0 hi1 hu=>?_);have hi1 : i<=(l.length : Int):=by simpa using hi1
 simp;intro b11
 refine aI eok (λx : List Part × Int × Nat × Hd × Int × Int=>x.1.length<=40/\(∀ p∈x.1,cS fr p)/\(0<=x.2.1/\x.2.1<=fr)/\x.2.2.1<=12/\0<=x.2.2.2.2.1/\x.2.2.2.2.1<=(l.length : Int)/\(frs x.1 : Int) + x.2.1 = fr/\tos x.1 + x.2.2.1<=frs x.1 + 12)
  (λx=>⟨75,0,[(7,.v (.int .i64 x.2.2.1)),(6,.v (.int .i64 x.2.1)),(5,.sl 176 x.2.2.2.1 3 0 x.1.length),(0,.p 0 b 0)],[(0,.vars b 74 (a9 u l.length x.2.2.2.2.1 x.2.2.2.2.2)),(176,.rows x.2.2.2.1 3 (x.1.map Part.row) true)]⟩)
  (λx=>41 - x.1.length) ([],fr,12,some (b11,0,0),i,h) (by simp [frs,tos];omega) (by simp) (λx hx=>Ent.refl ?_)
 obtain ⟨o,left,room,H,i1,h1⟩:=x;obtain ⟨x1,x2,x3,x4,x5,x6,x7,x8⟩:=hx;simp only at x1 x2 x3 x4 x5 x6 x7 x8 ⊢;simp;by_cases c : 0 < left
 ·simp [c]
  refine aa.cur (cG l hl 4) hu (by simp) rfl x5 x6 (by simp) ?_
  rintro _ i2 h2 ⟨z,hz,rfl⟩ y5 y6
  simp;have wl:=Go.IntWalk.i64_in (left + 1) (by omega);by_cases z0 : z = 0
  ·simp [z0]
   refine aa.cur (nn l hl 3 (by omega) (by omega)) hu (by simp) rfl y5 y6 (by simp) ?_
   rintro _ i3 h3 ⟨S,hS,rfl⟩ y5 y6
   simp;intro HS;by_cases c1 : room < S.length
   ·have wr:=Go.IntWalk.i64_in (room : Int) (by omega)
    simp [c1,wr];have hP : cS fr (⟨2,0,[]⟩ : Part):=.inr ⟨rfl,rfl,by simp,by simp [cL]⟩;have hF : (frs (o ++ [(⟨2,0,[]⟩ : Part)]) : Int) + (left : Int) = fr:=by rw [aZ];(simp;omega)
    have hT : tos (o ++ [(⟨2,0,[]⟩ : Part)]) + (room : Nat)<=frs (o ++ [(⟨2,0,[]⟩ : Part)]) + 12:=by rw [aZ,df];(simp [psz];omega)
    have hLf : 0<=(left : Int)/\(left : Int)<=fr:=x3;have hRm : (room : Nat)<=12:=x4;have hall : ∀ q∈o ++ [(⟨2,0,[]⟩ : Part)],cS fr q:=λq hq=>(List.mem_append.1 hq).elim (x2 q) (λh=>by simp at h;subst h;exact hP)
    intro bA;refine ⟨by omega,λHB=>?_⟩;by_cases c2 : 40 < (o.length : Int) + 1
    ·simp [c2]
     intro bB;refine ⟨by omega,λHC=>?_⟩;refine bn (.c _ 3) ⟨o ++ [(⟨2,0,[]⟩ : Part)] ++ [⟨1,left,[]⟩],jt hall hLf hF (by omega) (by simp;omega) hf0,rfl⟩ ?_;simp;refine ⟨?_,⟨rfl,rfl⟩,bo rfl y5 y6⟩
     rintro row (⟨a,-,rfl⟩ | rfl | rfl)<;>rfl
    ·simp [c2]
     refine Ent.refl ⟨o ++ [(⟨2,0,[]⟩ : Part)],left,room,HB,_,⟨by simp;omega,hall,hLf,hRm,y5,y6,hF,hT⟩,by simp;omega,h3,?_⟩;simp [Part.row]<;>omega
   ·have wr:=Go.IntWalk.i64_in ((room : Int) - S.length) (by omega)
    simp [c1,wr];have hP : cS fr (⟨2,0,S⟩ : Part):=.inr ⟨rfl,rfl,by have:=hS.1;simp;omega,hS.2⟩;have hF : (frs (o ++ [(⟨2,0,S⟩ : Part)]) : Int) + (left : Int) = fr:=by rw [aZ];(simp;omega)
    have hT : tos (o ++ [(⟨2,0,S⟩ : Part)]) + ((room - S.length) : Nat)<=frs (o ++ [(⟨2,0,S⟩ : Part)]) + 12:=by rw [aZ,df];(simp [psz];omega)
    have hLf : 0<=(left : Int)/\(left : Int)<=fr:=x3;have hRm : ((room - S.length) : Nat)<=12:=(by omega);have hall : ∀ q∈o ++ [(⟨2,0,S⟩ : Part)],cS fr q:=λq hq=>(List.mem_append.1 hq).elim (x2 q) (λh=>by simp at h;subst h;exact hP)
    intro bA;refine ⟨by omega,λHB=>?_⟩;by_cases c2 : 40 < (o.length : Int) + 1
    ·simp [c2]
     intro bB;refine ⟨by omega,λHC=>?_⟩;refine bn (.c _ 3) ⟨o ++ [(⟨2,0,S⟩ : Part)] ++ [⟨1,left,[]⟩],jt hall hLf hF (by omega) (by simp;omega) hf0,rfl⟩ ?_;simp;refine ⟨?_,⟨rfl,rfl⟩,bo rfl y5 y6⟩
     rintro row (⟨a,-,rfl⟩ | rfl | rfl)<;>rfl
    ·simp [c2]
     refine Ent.refl ⟨o ++ [(⟨2,0,S⟩ : Part)],left,(room - S.length),HB,_,⟨by simp;omega,hall,hLf,hRm,y5,y6,hF,hT⟩,by simp;omega,h3,?_⟩;simp [Part.row]<;>omega
  by_cases z1 : z = 1
  ·simp [z1,wl]
   refine aa.cur (cG l hl (left + 1)) hu (by simp) rfl y5 y6 (by simp) ?_
   rintro _ i3 h3 ⟨m,hm,rfl⟩ y5 y6
   have hm1:=hm.1;have hm2:=hm.2.2 (by omega);simp;by_cases c1 : 4 < m
   ·have wr:=Go.IntWalk.i64_in (left - 4) (by omega)
    simp [c1,wr];have hP : cS fr (⟨3,4,[]⟩ : Part):=.inl ⟨.inr rfl,by simp;omega,rfl⟩;have hF : (frs (o ++ [(⟨3,4,[]⟩ : Part)]) : Int) + ((left - 4) : Int) = fr:=by rw [aZ];(simp [psz];omega)
    have hT : tos (o ++ [(⟨3,4,[]⟩ : Part)]) + (room : Nat)<=frs (o ++ [(⟨3,4,[]⟩ : Part)]) + 12:=by rw [aZ,df];(simp [psz];omega)
    have hLf : 0<=((left - 4) : Int)/\((left - 4) : Int)<=fr:=(by omega);have hRm : (room : Nat)<=12:=x4;have hall : ∀ q∈o ++ [(⟨3,4,[]⟩ : Part)],cS fr q:=λq hq=>(List.mem_append.1 hq).elim (x2 q) (λh=>by simp at h;subst h;exact hP)
    intro bA;refine ⟨by omega,λHB=>?_⟩;by_cases c2 : 40 < (o.length : Int) + 1
    ·simp [c2]
     intro bB;refine ⟨by omega,λHC=>?_⟩;refine bn (.c _ 3) ⟨o ++ [(⟨3,4,[]⟩ : Part)] ++ [⟨1,(left - 4),[]⟩],jt hall hLf hF (by omega) (by simp;omega) hf0,rfl⟩ ?_;simp;refine ⟨?_,⟨rfl,rfl⟩,bo rfl y5 y6⟩
     rintro row (⟨a,-,rfl⟩ | rfl | rfl)<;>rfl
    ·simp [c2]
     refine Ent.refl ⟨o ++ [(⟨3,4,[]⟩ : Part)],(left - 4),room,HB,_,⟨by simp;omega,hall,hLf,hRm,y5,y6,hF,hT⟩,by simp;omega,h3,?_⟩;simp [Part.row]<;>omega
   ·have wr:=Go.IntWalk.i64_in (left - m) (by omega)
    simp [c1,wr];have hP : cS fr (⟨3,m,[]⟩ : Part):=.inl ⟨.inr rfl,by simp;omega,rfl⟩;have hF : (frs (o ++ [(⟨3,m,[]⟩ : Part)]) : Int) + ((left - m) : Int) = fr:=by rw [aZ];(simp [psz];omega)
    have hT : tos (o ++ [(⟨3,m,[]⟩ : Part)]) + (room : Nat)<=frs (o ++ [(⟨3,m,[]⟩ : Part)]) + 12:=by rw [aZ,df];(simp [psz];omega)
    have hLf : 0<=((left - m) : Int)/\((left - m) : Int)<=fr:=(by omega);have hRm : (room : Nat)<=12:=x4;have hall : ∀ q∈o ++ [(⟨3,m,[]⟩ : Part)],cS fr q:=λq hq=>(List.mem_append.1 hq).elim (x2 q) (λh=>by simp at h;subst h;exact hP)
    intro bA;refine ⟨by omega,λHB=>?_⟩;by_cases c2 : 40 < (o.length : Int) + 1
    ·simp [c2]
     intro bB;refine ⟨by omega,λHC=>?_⟩;refine bn (.c _ 3) ⟨o ++ [(⟨3,m,[]⟩ : Part)] ++ [⟨1,(left - m),[]⟩],jt hall hLf hF (by omega) (by simp;omega) hf0,rfl⟩ ?_;simp;refine ⟨?_,⟨rfl,rfl⟩,bo rfl y5 y6⟩
     rintro row (⟨a,-,rfl⟩ | rfl | rfl)<;>rfl
    ·simp [c2]
     refine Ent.refl ⟨o ++ [(⟨3,m,[]⟩ : Part)],(left - m),room,HB,_,⟨by simp;omega,hall,hLf,hRm,y5,y6,hF,hT⟩,by simp;omega,h3,?_⟩;simp [Part.row]<;>omega
  simp [z0,z1,wl];refine aa.cur (cG l hl (left + 1)) hu (by simp) rfl y5 y6 (by simp) ?_
  rintro _ i3 h3 ⟨m,hm,rfl⟩ y5 y6
  have hm1:=hm.1;have hm2:=hm.2.2 (by omega);have wr:=Go.IntWalk.i64_in (left - m) (by omega);simp [wr];have hP : cS fr (⟨1,m,[]⟩ : Part):=.inl ⟨.inl rfl,by simp;omega,rfl⟩;have hF : (frs (o ++ [(⟨1,m,[]⟩ : Part)]) : Int) + ((left - m) : Int) = fr:=by rw [aZ];(simp [psz];omega)
  have hT : tos (o ++ [(⟨1,m,[]⟩ : Part)]) + (room : Nat)<=frs (o ++ [(⟨1,m,[]⟩ : Part)]) + 12:=by rw [aZ,df];(simp [psz];omega)
  have hLf : 0<=((left - m) : Int)/\((left - m) : Int)<=fr:=(by omega);have hRm : (room : Nat)<=12:=x4;have hall : ∀ q∈o ++ [(⟨1,m,[]⟩ : Part)],cS fr q:=λq hq=>(List.mem_append.1 hq).elim (x2 q) (λh=>by simp at h;subst h;exact hP)
  intro bA;refine ⟨by omega,λHB=>?_⟩;by_cases c2 : 40 < (o.length : Int) + 1
  ·simp [c2]
   intro bB;refine ⟨by omega,λHC=>?_⟩;refine bn (.c _ 3) ⟨o ++ [(⟨1,m,[]⟩ : Part)] ++ [⟨1,(left - m),[]⟩],jt hall hLf hF (by omega) (by simp;omega) hf0,rfl⟩ ?_;simp;refine ⟨?_,⟨rfl,rfl⟩,bo rfl y5 y6⟩
   rintro row (⟨a,-,rfl⟩ | rfl | rfl)<;>rfl
  ·simp [c2]
   refine Ent.refl ⟨o ++ [(⟨1,m,[]⟩ : Part)],(left - m),room,HB,_,⟨by simp;omega,hall,hLf,hRm,y5,y6,hF,hT⟩,by simp;omega,h3,?_⟩;simp [Part.row]<;>omega
 ·simp [c]
  refine aa.cur (pl l hl 3) hu (by simp) rfl x5 x6 (by simp) ?_
  rintro _ i9 h9 ⟨q,rfl⟩ x5 x6
  simp
  cases q with
  | true=>
    simp;refine aa.cur (cG l hl 4) hu (by simp) rfl x5 x6 (by simp) ?_
    rintro _ i2 h2 ⟨z,hz,rfl⟩ y5 y6
    simp;have wl:=Go.IntWalk.i64_in (left + 1) (by omega);by_cases z0 : z = 0
    ·simp [z0]
     refine aa.cur (nn l hl 3 (by omega) (by omega)) hu (by simp) rfl y5 y6 (by simp) ?_
     rintro _ i3 h3 ⟨S,hS,rfl⟩ y5 y6
     simp;intro HS;by_cases c1 : room < S.length
     ·have wr:=Go.IntWalk.i64_in (room : Int) (by omega)
      simp [c1,wr];have hP : cS fr (⟨2,0,[]⟩ : Part):=.inr ⟨rfl,rfl,by simp,by simp [cL]⟩;have hF : (frs (o ++ [(⟨2,0,[]⟩ : Part)]) : Int) + (left : Int) = fr:=by rw [aZ];(simp;omega)
      have hT : tos (o ++ [(⟨2,0,[]⟩ : Part)]) + (room : Nat)<=frs (o ++ [(⟨2,0,[]⟩ : Part)]) + 12:=by rw [aZ,df];(simp [psz];omega)
      have hLf : 0<=(left : Int)/\(left : Int)<=fr:=x3;have hRm : (room : Nat)<=12:=x4;have hall : ∀ q∈o ++ [(⟨2,0,[]⟩ : Part)],cS fr q:=λq hq=>(List.mem_append.1 hq).elim (x2 q) (λh=>by simp at h;subst h;exact hP)
      intro bA;refine ⟨by omega,λHB=>?_⟩;by_cases c2 : 40 < (o.length : Int) + 1
      ·simp [c2]
       intro bB;refine ⟨by omega,λHC=>?_⟩;refine bn (.c _ 3) ⟨o ++ [(⟨2,0,[]⟩ : Part)] ++ [⟨1,left,[]⟩],jt hall hLf hF (by omega) (by simp;omega) hf0,rfl⟩ ?_;simp;refine ⟨?_,⟨rfl,rfl⟩,bo rfl y5 y6⟩
       rintro row (⟨a,-,rfl⟩ | rfl | rfl)<;>rfl
      ·simp [c2]
       refine Ent.refl ⟨o ++ [(⟨2,0,[]⟩ : Part)],left,room,HB,_,⟨by simp;omega,hall,hLf,hRm,y5,y6,hF,hT⟩,by simp;omega,h3,?_⟩;simp [Part.row]<;>omega
     ·have wr:=Go.IntWalk.i64_in ((room : Int) - S.length) (by omega)
      simp [c1,wr];have hP : cS fr (⟨2,0,S⟩ : Part):=.inr ⟨rfl,rfl,by have:=hS.1;simp;omega,hS.2⟩;have hF : (frs (o ++ [(⟨2,0,S⟩ : Part)]) : Int) + (left : Int) = fr:=by rw [aZ];(simp;omega)
      have hT : tos (o ++ [(⟨2,0,S⟩ : Part)]) + ((room - S.length) : Nat)<=frs (o ++ [(⟨2,0,S⟩ : Part)]) + 12:=by rw [aZ,df];(simp [psz];omega)
      have hLf : 0<=(left : Int)/\(left : Int)<=fr:=x3;have hRm : ((room - S.length) : Nat)<=12:=(by omega);have hall : ∀ q∈o ++ [(⟨2,0,S⟩ : Part)],cS fr q:=λq hq=>(List.mem_append.1 hq).elim (x2 q) (λh=>by simp at h;subst h;exact hP)
      intro bA;refine ⟨by omega,λHB=>?_⟩;by_cases c2 : 40 < (o.length : Int) + 1
      ·simp [c2]
       intro bB;refine ⟨by omega,λHC=>?_⟩;refine bn (.c _ 3) ⟨o ++ [(⟨2,0,S⟩ : Part)] ++ [⟨1,left,[]⟩],jt hall hLf hF (by omega) (by simp;omega) hf0,rfl⟩ ?_;simp;refine ⟨?_,⟨rfl,rfl⟩,bo rfl y5 y6⟩
       rintro row (⟨a,-,rfl⟩ | rfl | rfl)<;>rfl
      ·simp [c2]
       refine Ent.refl ⟨o ++ [(⟨2,0,S⟩ : Part)],left,(room - S.length),HB,_,⟨by simp;omega,hall,hLf,hRm,y5,y6,hF,hT⟩,by simp;omega,h3,?_⟩;simp [Part.row]<;>omega
    by_cases z1 : z = 1
    ·simp [z1,wl]
     refine aa.cur (cG l hl (left + 1)) hu (by simp) rfl y5 y6 (by simp) ?_
     rintro _ i3 h3 ⟨m,hm,rfl⟩ y5 y6
     have hm1:=hm.1;have hm2:=hm.2.2 (by omega);simp;by_cases c1 : 4 < m
     ·have wr:=Go.IntWalk.i64_in (left - 4) (by omega)
      simp [c1,wr];have hP : cS fr (⟨3,4,[]⟩ : Part):=.inl ⟨.inr rfl,by simp;omega,rfl⟩;have hF : (frs (o ++ [(⟨3,4,[]⟩ : Part)]) : Int) + ((left - 4) : Int) = fr:=by rw [aZ];(simp [psz];omega)
      have hT : tos (o ++ [(⟨3,4,[]⟩ : Part)]) + (room : Nat)<=frs (o ++ [(⟨3,4,[]⟩ : Part)]) + 12:=by rw [aZ,df];(simp [psz];omega)
      have hLf : 0<=((left - 4) : Int)/\((left - 4) : Int)<=fr:=(by omega);have hRm : (room : Nat)<=12:=x4;have hall : ∀ q∈o ++ [(⟨3,4,[]⟩ : Part)],cS fr q:=λq hq=>(List.mem_append.1 hq).elim (x2 q) (λh=>by simp at h;subst h;exact hP)
      intro bA;refine ⟨by omega,λHB=>?_⟩;by_cases c2 : 40 < (o.length : Int) + 1
      ·simp [c2]
       intro bB;refine ⟨by omega,λHC=>?_⟩;refine bn (.c _ 3) ⟨o ++ [(⟨3,4,[]⟩ : Part)] ++ [⟨1,(left - 4),[]⟩],jt hall hLf hF (by omega) (by simp;omega) hf0,rfl⟩ ?_;simp;refine ⟨?_,⟨rfl,rfl⟩,bo rfl y5 y6⟩
       rintro row (⟨a,-,rfl⟩ | rfl | rfl)<;>rfl
      ·simp [c2]
       refine Ent.refl ⟨o ++ [(⟨3,4,[]⟩ : Part)],(left - 4),room,HB,_,⟨by simp;omega,hall,hLf,hRm,y5,y6,hF,hT⟩,by simp;omega,h3,?_⟩;simp [Part.row]<;>omega
     ·have wr:=Go.IntWalk.i64_in (left - m) (by omega)
      simp [c1,wr];have hP : cS fr (⟨3,m,[]⟩ : Part):=.inl ⟨.inr rfl,by simp;omega,rfl⟩;have hF : (frs (o ++ [(⟨3,m,[]⟩ : Part)]) : Int) + ((left - m) : Int) = fr:=by rw [aZ];(simp [psz];omega)
      have hT : tos (o ++ [(⟨3,m,[]⟩ : Part)]) + (room : Nat)<=frs (o ++ [(⟨3,m,[]⟩ : Part)]) + 12:=by rw [aZ,df];(simp [psz];omega)
      have hLf : 0<=((left - m) : Int)/\((left - m) : Int)<=fr:=(by omega);have hRm : (room : Nat)<=12:=x4;have hall : ∀ q∈o ++ [(⟨3,m,[]⟩ : Part)],cS fr q:=λq hq=>(List.mem_append.1 hq).elim (x2 q) (λh=>by simp at h;subst h;exact hP)
      intro bA;refine ⟨by omega,λHB=>?_⟩;by_cases c2 : 40 < (o.length : Int) + 1
      ·simp [c2]
       intro bB;refine ⟨by omega,λHC=>?_⟩;refine bn (.c _ 3) ⟨o ++ [(⟨3,m,[]⟩ : Part)] ++ [⟨1,(left - m),[]⟩],jt hall hLf hF (by omega) (by simp;omega) hf0,rfl⟩ ?_;simp;refine ⟨?_,⟨rfl,rfl⟩,bo rfl y5 y6⟩
       rintro row (⟨a,-,rfl⟩ | rfl | rfl)<;>rfl
      ·simp [c2]
       refine Ent.refl ⟨o ++ [(⟨3,m,[]⟩ : Part)],(left - m),room,HB,_,⟨by simp;omega,hall,hLf,hRm,y5,y6,hF,hT⟩,by simp;omega,h3,?_⟩;simp [Part.row]<;>omega
    simp [z0,z1,wl];refine aa.cur (cG l hl (left + 1)) hu (by simp) rfl y5 y6 (by simp) ?_
    rintro _ i3 h3 ⟨m,hm,rfl⟩ y5 y6
    have hm1:=hm.1;have hm2:=hm.2.2 (by omega);have wr:=Go.IntWalk.i64_in (left - m) (by omega);simp [wr];have hP : cS fr (⟨1,m,[]⟩ : Part):=.inl ⟨.inl rfl,by simp;omega,rfl⟩;have hF : (frs (o ++ [(⟨1,m,[]⟩ : Part)]) : Int) + ((left - m) : Int) = fr:=by rw [aZ];(simp [psz];omega)
    have hT : tos (o ++ [(⟨1,m,[]⟩ : Part)]) + (room : Nat)<=frs (o ++ [(⟨1,m,[]⟩ : Part)]) + 12:=by rw [aZ,df];(simp [psz];omega)
    have hLf : 0<=((left - m) : Int)/\((left - m) : Int)<=fr:=(by omega);have hRm : (room : Nat)<=12:=x4;have hall : ∀ q∈o ++ [(⟨1,m,[]⟩ : Part)],cS fr q:=λq hq=>(List.mem_append.1 hq).elim (x2 q) (λh=>by simp at h;subst h;exact hP)
    intro bA;refine ⟨by omega,λHB=>?_⟩;by_cases c2 : 40 < (o.length : Int) + 1
    ·simp [c2]
     intro bB;refine ⟨by omega,λHC=>?_⟩;refine bn (.c _ 3) ⟨o ++ [(⟨1,m,[]⟩ : Part)] ++ [⟨1,(left - m),[]⟩],jt hall hLf hF (by omega) (by simp;omega) hf0,rfl⟩ ?_;simp;refine ⟨?_,⟨rfl,rfl⟩,bo rfl y5 y6⟩
     rintro row (⟨a,-,rfl⟩ | rfl | rfl)<;>rfl
    ·simp [c2]
     refine Ent.refl ⟨o ++ [(⟨1,m,[]⟩ : Part)],(left - m),room,HB,_,⟨by simp;omega,hall,hLf,hRm,y5,y6,hF,hT⟩,by simp;omega,h3,?_⟩;simp [Part.row]<;>omega
  | false=>
    simp;refine bn (.c _ 3) ⟨o,⟨by omega,λp hp=>(x2 p hp).b hf0,x2,by omega,by omega⟩,rfl⟩ ?_;simp;exact bo rfl x5 x6
end Go.Proofs.Ytoldjebobgocpaa
