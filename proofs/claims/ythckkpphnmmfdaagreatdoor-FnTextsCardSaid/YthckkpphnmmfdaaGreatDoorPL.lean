import Derived.Test.YthckkpphnmmfdaaGreatDoorPK
import Derived.Test.YthckkpphnmmfdaaGreatDoorPD
import Derived.Test.YthckkpphnmmfdaaGreatDoorPG
import Derived.Test.YthckkpphnmmfdaaGreatDoorPJ
import Derived.Test.YthckkpphnmmfdaaGreatDoorMF
import Derived.Test.YthckkpphnmmfdaaGreatDoorPC
import Derived.Test.YthckkpphnmmfdaaGreatDoorPE
namespace Go.Proofs.YthckkpphnmmfdaaGreatDoor
open Go.AM
set_option maxRecDepth 20000
set_option maxHeartbeats 6400000
def yv (fr:Int) (p:Part):Prop:=(1<=p.kind/\p.kind<=3)/\(0<=p.n/\p.n<=fr)/\p.signs.length<=3/\∀ x∈p.signs,dN x
def el (fr:Int) (p:Part):Prop:=((p.kind=1\/p.kind=3)/\(0<=p.n/\p.n<=fr)/\p.signs=[])\/(p.kind=2/\p.n=0/\p.signs.length<=3/\cr p.signs)
theorem el.b {fr:Int} (h0:0<=fr) {p:Part} (h:el fr p):yv fr p:=by
 rcases h with ⟨h1,h2,h3⟩|⟨h1,h2,h3,h4⟩
 ·exact ⟨by omega,h2,by simp [h3],by simp [h3]⟩
 ·exact ⟨by omega,by omega,h3,h4⟩
def pts:List Part->Nat
 | []=>0
 |p::o=>(if p.kind=2 then psz p else 0)+pts o
def opD (fr:Int) (o:List Part):Prop:=(∀ p∈o,el fr p)/\(frs o:Int)=fr/\tos o<=frs o+12/\pts o<=12
theorem eS (p:Part):∀ o:List Part,pts (o++[p])=pts o+(if p.kind=2 then psz p else 0)
 | []=>by simp [pts]
 |q::o=>by simp only [List.cons_append,pts,eS p o];omega
theorem co (p:Part):∀ o:List Part,frs (o++[p])=frs o+(if p.kind=2 then 0 else psz p)
 | []=>by simp [frs]
 |q::o=>by simp only [List.cons_append,frs,co p o];omega
theorem eQ (p:Part):∀ o:List Part,tos (o++[p])=tos o+(if p.kind=3 then 0 else psz p)
 | []=>by simp [tos]
 |q::o=>by simp only [List.cons_append,tos,eQ p o];omega
theorem opD.ok {fr:Int} {o:List Part} (h:opD fr o) (h0:0<=fr) (h1:fr<=188) (hl:o.length<=42):aX o/\aL o=fr/\cE o<=fr+12:=by
 have hp:∀ p∈o,am p:=λp hp=>by
  rcases h.1 p hp with ⟨h1,h2,h3⟩|⟨h1,h2,h3,h4⟩
  ·exact .inl ⟨h1,by omega,h3⟩
  ·exact .inr ⟨h1,h2,by omega,h4⟩
 have hps:cG o:=⟨hp,by omega⟩;have f:=nK hps;have t:=sa hps;have:=h.2;exact ⟨⟨hps,by omega,by omega⟩,by omega,by omega⟩
def LE (p:List Part->Prop) (rr:RR):Prop:=∃ L:List Part,p L/\rr=.one (.c (.s (L.map Part.row)) 3)
theorem na {fr:Int} {o:List Part} {lf:Int} (h:∀ q∈o,el fr q) (hl:0<=lf/\lf<=fr) (hf:(frs o:Int)+lf=fr) (ht:tos o<=frs o+12) (hq:pts o<=12) (hn:o.length<=41) (h0:0<=fr) :
 (o++[(⟨1,lf,[]⟩:Part)]).length<=42/\(∀ p∈o++[(⟨1,lf,[]⟩:Part)],yv fr p)/\opD fr (o++[(⟨1,lf,[]⟩:Part)]):=by
 have hall:∀ q∈o++[(⟨1,lf,[]⟩:Part)],el fr q:=λq hq=>(List.mem_append.1 hq).elim (h q) (λh=>by simp at h;subst h;exact Or.inl ⟨Or.inl rfl,hl,rfl⟩)
 refine ⟨by simp;omega,λp hp=>(hall p hp).b h0,hall,?_,?_,?_⟩
 ·rw [co];simp [psz];omega
 ·rw [co,eQ];simp [psz];omega
 ·rw [eS];simp;omega
theorem mR (l:List UInt8) (hl:l.length<=2 ^ 40) (fr:Int) (hf0:0<=fr) (hf:fr<=2 ^ 40):gk Tryz.prog 96 (l.map dL) 110 [.c (vi fr)] (LE λo=>o.length<=42/\(∀ p∈o,yv fr p)/\opD fr o):=by
 refine gk.intro ag Tryz.func110 (by kernel_rfl) rfl rfl rfl (Nat.le_of_ble_eq_true rfl) (λw0 base b u i h hi0 hi1 hu=>?_);have hi1:i<=(l.length:Int):=by simpa using hi1
 simp;intro b11
 refine ar eok (λx:List Part×Int×Nat×Hd×Int×Int=>x.1.length<=40/\(∀ p∈x.1,el fr p)/\(0<=x.2.1/\x.2.1<=fr)/\x.2.2.1<=12/\0<=x.2.2.2.2.1/\x.2.2.2.2.1<=(l.length:Int)/\(frs x.1:Int)+x.2.1=fr/\tos x.1+x.2.2.1<=frs x.1+12/\pts x.1+x.2.2.1<=12)
  (λx=>⟨75,0,[(7,.v (.int .i64 x.2.2.1)),(6,.v (.int .i64 x.2.1)),(5,.sl 176 x.2.2.2.1 3 0 x.1.length),(0,.p 0 b 0)],[(0,.vars b 96 (dy u l.length x.2.2.2.2.1 x.2.2.2.2.2)),(176,.rows x.2.2.2.1 3 (x.1.map Part.row) true)]⟩)
  (λx=>41 - x.1.length) ([],fr,12,some (b11,0,0),i,h) (by simp [frs,tos,pts];omega) (by simp) (λx hx=>Ent.refl ?_)
 obtain ⟨o,left,room,H,i1,h1⟩:=x;obtain ⟨x1,x2,x3,x4,x5,x6,x7,x8,x9⟩:=hx;simp only at x1 x2 x3 x4 x5 x6 x7 x8 x9 ⊢;simp;by_cases c:0<left
 ·simp [c]
  refine aa.cur (ak l hl 4) hu (by simp) rfl x5 x6 (by simp) ?_
  rintro _ i2 h2 ⟨z,hz,rfl⟩ y5 y6
  simp;have wl:=Go.IntWalk.i64_in (left+1) (by omega);by_cases z0:z=0
  ·simp [z0]
   refine aa.cur (gh l hl 3 (by omega) (by omega)) hu (by simp) rfl y5 y6 (by simp) ?_
   rintro _ i3 h3 ⟨S,hS,rfl⟩ y5 y6
   simp;intro HS;by_cases c1:room<S.length
   ·have wr:=Go.IntWalk.i64_in (room:Int) (by omega)
    simp [c1,wr];have hP:el fr (⟨2,0,[]⟩:Part):=.inr ⟨rfl,rfl,by simp,by simp [cr]⟩;have hF:(frs (o++[(⟨2,0,[]⟩:Part)]):Int)+(left:Int)=fr:=by rw [co];(simp;omega)
    have hT:tos (o++[(⟨2,0,[]⟩:Part)])+(room:Nat)<=frs (o++[(⟨2,0,[]⟩:Part)])+12:=by rw [co,eQ];(simp [psz];omega)
    have hT2:pts (o++[(⟨2,0,[]⟩:Part)])+(room:Nat)<=12:=by rw [eS];(simp [psz];omega)
    have hLf:0<=(left:Int)/\(left:Int)<=fr:=x3;have hRm:(room:Nat)<=12:=x4;have hall:∀ q∈o++[(⟨2,0,[]⟩:Part)],el fr q:=λq hq=>(List.mem_append.1 hq).elim (x2 q) (λh=>by simp at h;subst h;exact hP)
    intro bA;refine ⟨by omega,λHB=>?_⟩;by_cases c2:40<(o.length:Int)+1
    ·simp [c2]
     intro bB;refine ⟨by omega,λHC=>?_⟩;refine aV (.c _ 3) ⟨o++[(⟨2,0,[]⟩:Part)]++[⟨1,left,[]⟩],na hall hLf hF (by omega) (by omega) (by simp;omega) hf0,rfl⟩ ?_;simp;refine ⟨?_,⟨rfl,rfl⟩,ai rfl y5 y6⟩
     rintro row (⟨a,-,rfl⟩|rfl|rfl)<;>rfl
    ·simp [c2]
     refine Ent.refl ⟨o++[(⟨2,0,[]⟩:Part)],left,room,HB,_,⟨by simp;omega,hall,hLf,hRm,y5,y6,hF,hT,hT2⟩,by simp;omega,h3,?_⟩;simp [Part.row]<;>omega
   ·have wr:=Go.IntWalk.i64_in ((room:Int) - S.length) (by omega)
    simp [c1,wr];have hP:el fr (⟨2,0,S⟩:Part):=.inr ⟨rfl,rfl,by have:=hS.1;simp;omega,hS.2⟩;have hF:(frs (o++[(⟨2,0,S⟩:Part)]):Int)+(left:Int)=fr:=by rw [co];(simp;omega)
    have hT:tos (o++[(⟨2,0,S⟩:Part)])+((room - S.length):Nat)<=frs (o++[(⟨2,0,S⟩:Part)])+12:=by rw [co,eQ];(simp [psz];omega)
    have hT2:pts (o++[(⟨2,0,S⟩:Part)])+((room - S.length):Nat)<=12:=by rw [eS];(simp [psz];omega)
    have hLf:0<=(left:Int)/\(left:Int)<=fr:=x3;have hRm:((room - S.length):Nat)<=12:=(by omega);have hall:∀ q∈o++[(⟨2,0,S⟩:Part)],el fr q:=λq hq=>(List.mem_append.1 hq).elim (x2 q) (λh=>by simp at h;subst h;exact hP)
    intro bA;refine ⟨by omega,λHB=>?_⟩;by_cases c2:40<(o.length:Int)+1
    ·simp [c2]
     intro bB;refine ⟨by omega,λHC=>?_⟩;refine aV (.c _ 3) ⟨o++[(⟨2,0,S⟩:Part)]++[⟨1,left,[]⟩],na hall hLf hF (by omega) (by omega) (by simp;omega) hf0,rfl⟩ ?_;simp;refine ⟨?_,⟨rfl,rfl⟩,ai rfl y5 y6⟩
     rintro row (⟨a,-,rfl⟩|rfl|rfl)<;>rfl
    ·simp [c2]
     refine Ent.refl ⟨o++[(⟨2,0,S⟩:Part)],left,(room - S.length),HB,_,⟨by simp;omega,hall,hLf,hRm,y5,y6,hF,hT,hT2⟩,by simp;omega,h3,?_⟩;simp [Part.row]<;>omega
  by_cases z1:z=1
  ·simp [z1,wl]
   refine aa.cur (ak l hl (left+1)) hu (by simp) rfl y5 y6 (by simp) ?_
   rintro _ i3 h3 ⟨m,hm,rfl⟩ y5 y6
   have hm1:=hm.1;have hm2:=hm.2.2 (by omega);simp;by_cases c1:4<m
   ·have wr:=Go.IntWalk.i64_in (left - 4) (by omega)
    simp [c1,wr];have hP:el fr (⟨3,4,[]⟩:Part):=.inl ⟨.inr rfl,by simp;omega,rfl⟩;have hF:(frs (o++[(⟨3,4,[]⟩:Part)]):Int)+((left - 4):Int)=fr:=by rw [co];(simp [psz];omega)
    have hT:tos (o++[(⟨3,4,[]⟩:Part)])+(room:Nat)<=frs (o++[(⟨3,4,[]⟩:Part)])+12:=by rw [co,eQ];(simp [psz];omega)
    have hT2:pts (o++[(⟨3,4,[]⟩:Part)])+(room:Nat)<=12:=by rw [eS];(simp;omega)
    have hLf:0<=((left - 4):Int)/\((left - 4):Int)<=fr:=(by omega);have hRm:(room:Nat)<=12:=x4;have hall:∀ q∈o++[(⟨3,4,[]⟩:Part)],el fr q:=λq hq=>(List.mem_append.1 hq).elim (x2 q) (λh=>by simp at h;subst h;exact hP)
    intro bA;refine ⟨by omega,λHB=>?_⟩;by_cases c2:40<(o.length:Int)+1
    ·simp [c2]
     intro bB;refine ⟨by omega,λHC=>?_⟩;refine aV (.c _ 3) ⟨o++[(⟨3,4,[]⟩:Part)]++[⟨1,(left - 4),[]⟩],na hall hLf hF (by omega) (by omega) (by simp;omega) hf0,rfl⟩ ?_;simp;refine ⟨?_,⟨rfl,rfl⟩,ai rfl y5 y6⟩
     rintro row (⟨a,-,rfl⟩|rfl|rfl)<;>rfl
    ·simp [c2]
     refine Ent.refl ⟨o++[(⟨3,4,[]⟩:Part)],(left - 4),room,HB,_,⟨by simp;omega,hall,hLf,hRm,y5,y6,hF,hT,hT2⟩,by simp;omega,h3,?_⟩;simp [Part.row]<;>omega
   ·have wr:=Go.IntWalk.i64_in (left - m) (by omega)
    simp [c1,wr];have hP:el fr (⟨3,m,[]⟩:Part):=.inl ⟨.inr rfl,by simp;omega,rfl⟩;have hF:(frs (o++[(⟨3,m,[]⟩:Part)]):Int)+((left - m):Int)=fr:=by rw [co];(simp [psz];omega)
    have hT:tos (o++[(⟨3,m,[]⟩:Part)])+(room:Nat)<=frs (o++[(⟨3,m,[]⟩:Part)])+12:=by rw [co,eQ];(simp [psz];omega)
    have hT2:pts (o++[(⟨3,m,[]⟩:Part)])+(room:Nat)<=12:=by rw [eS];(simp;omega)
    have hLf:0<=((left - m):Int)/\((left - m):Int)<=fr:=(by omega);have hRm:(room:Nat)<=12:=x4;have hall:∀ q∈o++[(⟨3,m,[]⟩:Part)],el fr q:=λq hq=>(List.mem_append.1 hq).elim (x2 q) (λh=>by simp at h;subst h;exact hP)
    intro bA;refine ⟨by omega,λHB=>?_⟩;by_cases c2:40<(o.length:Int)+1
    ·simp [c2]
     intro bB;refine ⟨by omega,λHC=>?_⟩;refine aV (.c _ 3) ⟨o++[(⟨3,m,[]⟩:Part)]++[⟨1,(left - m),[]⟩],na hall hLf hF (by omega) (by omega) (by simp;omega) hf0,rfl⟩ ?_;simp;refine ⟨?_,⟨rfl,rfl⟩,ai rfl y5 y6⟩
     rintro row (⟨a,-,rfl⟩|rfl|rfl)<;>rfl
    ·simp [c2]
     refine Ent.refl ⟨o++[(⟨3,m,[]⟩:Part)],(left - m),room,HB,_,⟨by simp;omega,hall,hLf,hRm,y5,y6,hF,hT,hT2⟩,by simp;omega,h3,?_⟩;simp [Part.row]<;>omega
  simp [z0,z1,wl];refine aa.cur (ak l hl (left+1)) hu (by simp) rfl y5 y6 (by simp) ?_
  rintro _ i3 h3 ⟨m,hm,rfl⟩ y5 y6
  have hm1:=hm.1;have hm2:=hm.2.2 (by omega);have wr:=Go.IntWalk.i64_in (left - m) (by omega);simp [wr];have hP:el fr (⟨1,m,[]⟩:Part):=.inl ⟨.inl rfl,by simp;omega,rfl⟩;have hF:(frs (o++[(⟨1,m,[]⟩:Part)]):Int)+((left - m):Int)=fr:=by rw [co];(simp [psz];omega)
  have hT:tos (o++[(⟨1,m,[]⟩:Part)])+(room:Nat)<=frs (o++[(⟨1,m,[]⟩:Part)])+12:=by rw [co,eQ];(simp [psz];omega)
  have hT2:pts (o++[(⟨1,m,[]⟩:Part)])+(room:Nat)<=12:=by rw [eS];(simp;omega)
  have hLf:0<=((left - m):Int)/\((left - m):Int)<=fr:=(by omega);have hRm:(room:Nat)<=12:=x4;have hall:∀ q∈o++[(⟨1,m,[]⟩:Part)],el fr q:=λq hq=>(List.mem_append.1 hq).elim (x2 q) (λh=>by simp at h;subst h;exact hP)
  intro bA;refine ⟨by omega,λHB=>?_⟩;by_cases c2:40<(o.length:Int)+1
  ·simp [c2]
   intro bB;refine ⟨by omega,λHC=>?_⟩;refine aV (.c _ 3) ⟨o++[(⟨1,m,[]⟩:Part)]++[⟨1,(left - m),[]⟩],na hall hLf hF (by omega) (by omega) (by simp;omega) hf0,rfl⟩ ?_;simp;refine ⟨?_,⟨rfl,rfl⟩,ai rfl y5 y6⟩
   rintro row (⟨a,-,rfl⟩|rfl|rfl)<;>rfl
  ·simp [c2]
   refine Ent.refl ⟨o++[(⟨1,m,[]⟩:Part)],(left - m),room,HB,_,⟨by simp;omega,hall,hLf,hRm,y5,y6,hF,hT,hT2⟩,by simp;omega,h3,?_⟩;simp [Part.row]<;>omega
 ·simp [c]
  refine aa.cur (fI l hl 3) hu (by simp) rfl x5 x6 (by simp) ?_
  rintro _ i9 h9 ⟨q,rfl⟩ x5 x6
  simp
  cases q with
  | true =>
    simp;refine aa.cur (ak l hl 4) hu (by simp) rfl x5 x6 (by simp) ?_
    rintro _ i2 h2 ⟨z,hz,rfl⟩ y5 y6
    simp;have wl:=Go.IntWalk.i64_in (left+1) (by omega);by_cases z0:z=0
    ·simp [z0]
     refine aa.cur (gh l hl 3 (by omega) (by omega)) hu (by simp) rfl y5 y6 (by simp) ?_
     rintro _ i3 h3 ⟨S,hS,rfl⟩ y5 y6
     simp;intro HS;by_cases c1:room<S.length
     ·have wr:=Go.IntWalk.i64_in (room:Int) (by omega)
      simp [c1,wr];have hP:el fr (⟨2,0,[]⟩:Part):=.inr ⟨rfl,rfl,by simp,by simp [cr]⟩;have hF:(frs (o++[(⟨2,0,[]⟩:Part)]):Int)+(left:Int)=fr:=by rw [co];(simp;omega)
      have hT:tos (o++[(⟨2,0,[]⟩:Part)])+(room:Nat)<=frs (o++[(⟨2,0,[]⟩:Part)])+12:=by rw [co,eQ];(simp [psz];omega)
      have hT2:pts (o++[(⟨2,0,[]⟩:Part)])+(room:Nat)<=12:=by rw [eS];(simp [psz];omega)
      have hLf:0<=(left:Int)/\(left:Int)<=fr:=x3;have hRm:(room:Nat)<=12:=x4;have hall:∀ q∈o++[(⟨2,0,[]⟩:Part)],el fr q:=λq hq=>(List.mem_append.1 hq).elim (x2 q) (λh=>by simp at h;subst h;exact hP)
      intro bA;refine ⟨by omega,λHB=>?_⟩;by_cases c2:40<(o.length:Int)+1
      ·simp [c2]
       intro bB;refine ⟨by omega,λHC=>?_⟩;refine aV (.c _ 3) ⟨o++[(⟨2,0,[]⟩:Part)]++[⟨1,left,[]⟩],na hall hLf hF (by omega) (by omega) (by simp;omega) hf0,rfl⟩ ?_;simp;refine ⟨?_,⟨rfl,rfl⟩,ai rfl y5 y6⟩
       rintro row (⟨a,-,rfl⟩|rfl|rfl)<;>rfl
      ·simp [c2]
       refine Ent.refl ⟨o++[(⟨2,0,[]⟩:Part)],left,room,HB,_,⟨by simp;omega,hall,hLf,hRm,y5,y6,hF,hT,hT2⟩,by simp;omega,h3,?_⟩;simp [Part.row]<;>omega
     ·have wr:=Go.IntWalk.i64_in ((room:Int) - S.length) (by omega)
      simp [c1,wr];have hP:el fr (⟨2,0,S⟩:Part):=.inr ⟨rfl,rfl,by have:=hS.1;simp;omega,hS.2⟩;have hF:(frs (o++[(⟨2,0,S⟩:Part)]):Int)+(left:Int)=fr:=by rw [co];(simp;omega)
      have hT:tos (o++[(⟨2,0,S⟩:Part)])+((room - S.length):Nat)<=frs (o++[(⟨2,0,S⟩:Part)])+12:=by rw [co,eQ];(simp [psz];omega)
      have hT2:pts (o++[(⟨2,0,S⟩:Part)])+((room - S.length):Nat)<=12:=by rw [eS];(simp [psz];omega)
      have hLf:0<=(left:Int)/\(left:Int)<=fr:=x3;have hRm:((room - S.length):Nat)<=12:=(by omega);have hall:∀ q∈o++[(⟨2,0,S⟩:Part)],el fr q:=λq hq=>(List.mem_append.1 hq).elim (x2 q) (λh=>by simp at h;subst h;exact hP)
      intro bA;refine ⟨by omega,λHB=>?_⟩;by_cases c2:40<(o.length:Int)+1
      ·simp [c2]
       intro bB;refine ⟨by omega,λHC=>?_⟩;refine aV (.c _ 3) ⟨o++[(⟨2,0,S⟩:Part)]++[⟨1,left,[]⟩],na hall hLf hF (by omega) (by omega) (by simp;omega) hf0,rfl⟩ ?_;simp;refine ⟨?_,⟨rfl,rfl⟩,ai rfl y5 y6⟩
       rintro row (⟨a,-,rfl⟩|rfl|rfl)<;>rfl
      ·simp [c2]
       refine Ent.refl ⟨o++[(⟨2,0,S⟩:Part)],left,(room - S.length),HB,_,⟨by simp;omega,hall,hLf,hRm,y5,y6,hF,hT,hT2⟩,by simp;omega,h3,?_⟩;simp [Part.row]<;>omega
    by_cases z1:z=1
    ·simp [z1,wl]
     refine aa.cur (ak l hl (left+1)) hu (by simp) rfl y5 y6 (by simp) ?_
     rintro _ i3 h3 ⟨m,hm,rfl⟩ y5 y6
     have hm1:=hm.1;have hm2:=hm.2.2 (by omega);simp;by_cases c1:4<m
     ·have wr:=Go.IntWalk.i64_in (left - 4) (by omega)
      simp [c1,wr];have hP:el fr (⟨3,4,[]⟩:Part):=.inl ⟨.inr rfl,by simp;omega,rfl⟩;have hF:(frs (o++[(⟨3,4,[]⟩:Part)]):Int)+((left - 4):Int)=fr:=by rw [co];(simp [psz];omega)
      have hT:tos (o++[(⟨3,4,[]⟩:Part)])+(room:Nat)<=frs (o++[(⟨3,4,[]⟩:Part)])+12:=by rw [co,eQ];(simp [psz];omega)
      have hT2:pts (o++[(⟨3,4,[]⟩:Part)])+(room:Nat)<=12:=by rw [eS];(simp;omega)
      have hLf:0<=((left - 4):Int)/\((left - 4):Int)<=fr:=(by omega);have hRm:(room:Nat)<=12:=x4;have hall:∀ q∈o++[(⟨3,4,[]⟩:Part)],el fr q:=λq hq=>(List.mem_append.1 hq).elim (x2 q) (λh=>by simp at h;subst h;exact hP)
      intro bA;refine ⟨by omega,λHB=>?_⟩;by_cases c2:40<(o.length:Int)+1
      ·simp [c2]
       intro bB;refine ⟨by omega,λHC=>?_⟩;refine aV (.c _ 3) ⟨o++[(⟨3,4,[]⟩:Part)]++[⟨1,(left - 4),[]⟩],na hall hLf hF (by omega) (by omega) (by simp;omega) hf0,rfl⟩ ?_;simp;refine ⟨?_,⟨rfl,rfl⟩,ai rfl y5 y6⟩
       rintro row (⟨a,-,rfl⟩|rfl|rfl)<;>rfl
      ·simp [c2]
       refine Ent.refl ⟨o++[(⟨3,4,[]⟩:Part)],(left - 4),room,HB,_,⟨by simp;omega,hall,hLf,hRm,y5,y6,hF,hT,hT2⟩,by simp;omega,h3,?_⟩;simp [Part.row]<;>omega
     ·have wr:=Go.IntWalk.i64_in (left - m) (by omega)
      simp [c1,wr];have hP:el fr (⟨3,m,[]⟩:Part):=.inl ⟨.inr rfl,by simp;omega,rfl⟩;have hF:(frs (o++[(⟨3,m,[]⟩:Part)]):Int)+((left - m):Int)=fr:=by rw [co];(simp [psz];omega)
      have hT:tos (o++[(⟨3,m,[]⟩:Part)])+(room:Nat)<=frs (o++[(⟨3,m,[]⟩:Part)])+12:=by rw [co,eQ];(simp [psz];omega)
      have hT2:pts (o++[(⟨3,m,[]⟩:Part)])+(room:Nat)<=12:=by rw [eS];(simp;omega)
      have hLf:0<=((left - m):Int)/\((left - m):Int)<=fr:=(by omega);have hRm:(room:Nat)<=12:=x4;have hall:∀ q∈o++[(⟨3,m,[]⟩:Part)],el fr q:=λq hq=>(List.mem_append.1 hq).elim (x2 q) (λh=>by simp at h;subst h;exact hP)
      intro bA;refine ⟨by omega,λHB=>?_⟩;by_cases c2:40<(o.length:Int)+1
      ·simp [c2]
       intro bB;refine ⟨by omega,λHC=>?_⟩;refine aV (.c _ 3) ⟨o++[(⟨3,m,[]⟩:Part)]++[⟨1,(left - m),[]⟩],na hall hLf hF (by omega) (by omega) (by simp;omega) hf0,rfl⟩ ?_;simp;refine ⟨?_,⟨rfl,rfl⟩,ai rfl y5 y6⟩
       rintro row (⟨a,-,rfl⟩|rfl|rfl)<;>rfl
      ·simp [c2]
       refine Ent.refl ⟨o++[(⟨3,m,[]⟩:Part)],(left - m),room,HB,_,⟨by simp;omega,hall,hLf,hRm,y5,y6,hF,hT,hT2⟩,by simp;omega,h3,?_⟩;simp [Part.row]<;>omega
    simp [z0,z1,wl];refine aa.cur (ak l hl (left+1)) hu (by simp) rfl y5 y6 (by simp) ?_
    rintro _ i3 h3 ⟨m,hm,rfl⟩ y5 y6
    have hm1:=hm.1;have hm2:=hm.2.2 (by omega);have wr:=Go.IntWalk.i64_in (left - m) (by omega);simp [wr];have hP:el fr (⟨1,m,[]⟩:Part):=.inl ⟨.inl rfl,by simp;omega,rfl⟩;have hF:(frs (o++[(⟨1,m,[]⟩:Part)]):Int)+((left - m):Int)=fr:=by rw [co];(simp [psz];omega)
    have hT:tos (o++[(⟨1,m,[]⟩:Part)])+(room:Nat)<=frs (o++[(⟨1,m,[]⟩:Part)])+12:=by rw [co,eQ];(simp [psz];omega)
    have hT2:pts (o++[(⟨1,m,[]⟩:Part)])+(room:Nat)<=12:=by rw [eS];(simp;omega)
    have hLf:0<=((left - m):Int)/\((left - m):Int)<=fr:=(by omega);have hRm:(room:Nat)<=12:=x4;have hall:∀ q∈o++[(⟨1,m,[]⟩:Part)],el fr q:=λq hq=>(List.mem_append.1 hq).elim (x2 q) (λh=>by simp at h;subst h;exact hP)
    intro bA;refine ⟨by omega,λHB=>?_⟩;by_cases c2:40<(o.length:Int)+1
    ·simp [c2]
     intro bB;refine ⟨by omega,λHC=>?_⟩;refine aV (.c _ 3) ⟨o++[(⟨1,m,[]⟩:Part)]++[⟨1,(left - m),[]⟩],na hall hLf hF (by omega) (by omega) (by simp;omega) hf0,rfl⟩ ?_;simp;refine ⟨?_,⟨rfl,rfl⟩,ai rfl y5 y6⟩
     rintro row (⟨a,-,rfl⟩|rfl|rfl)<;>rfl
    ·simp [c2]
     refine Ent.refl ⟨o++[(⟨1,m,[]⟩:Part)],(left - m),room,HB,_,⟨by simp;omega,hall,hLf,hRm,y5,y6,hF,hT,hT2⟩,by simp;omega,h3,?_⟩;simp [Part.row]<;>omega
  | false =>
    simp;refine aV (.c _ 3) ⟨o,⟨by omega,λp hp=>(x2 p hp).b hf0,x2,by omega,by omega,by omega⟩,rfl⟩ ?_;simp;exact ai rfl x5 x6
set_option maxHeartbeats 12800000
theorem oQ (l:List UInt8) (_hl:l.length<=2 ^ 40):HO Tryz.prog 96 (l.map dL) 68:=by
 refine HO.intro ag Tryz.func68 (by kernel_rfl) rfl rfl rfl (Nat.le_of_ble_eq_true rfl) (λw0 base u hu=>?_);simp;refine ar eok (λx:Nat×Int=>x.1<=l.length) (λx=>⟨32,0,[(4,.v (.int .i64 x.1)),(3,.v (.int .i64 x.2)),(0,.cv u l.length)],[]⟩) (λx=>l.length - x.1) (0,Go.IntKind.i64.wrap (1621+(l.length:Int))) (by simp) (by simp) (λx hx=>Ent.refl ?_);obtain ⟨i,h⟩:=x;simp only at hx ⊢;by_cases c:i<l.length
 ·by_cases c2:i<4000
  ·have c2':(i:Int)<4000:=by omega
   simp [c,c2'];refine ⟨_,hu,?_⟩;simp [c];refine Ent.refl ⟨i+1,by omega,by omega,?_⟩;simp;exact aB (by omega)
  ·have c2':¬ (i:Int)<4000:=by omega
   simp [c,c2'];exact λb=>⟨496,b,⟨rfl,rfl⟩,_,rfl⟩
 ·simp [c]
  exact λb=>⟨496,b,⟨rfl,rfl⟩,_,rfl⟩
attribute [local simp ↓] QY
set_option maxHeartbeats 6400000
def lY (p:Part):Prop:=(-9223372036854775808<=p.kind/\p.kind<=9223372036854775807)/\(-9223372036854775808<=p.n/\p.n<=9223372036854775807)/\p.signs.length<=4/\∀ x∈p.signs,-9223372036854775808<=x/\x<=9223372036854775807
theorem yv.any {fr:Int} (hf:fr<=2 ^ 40) {p:Part} (h:yv fr p):lY p:=by
 obtain ⟨h1,h2,h3,h4⟩:=h;exact ⟨by omega,by omega,by omega,λx hx=>by have:=h4 x hx;unfold dN at this;omega⟩
theorem FC {o:List Part} {k:Nat} {q:Part} (_hk:k<o.length) (hp:∀ p∈o,lY p) (hq:lY q):∀ p∈o.set k q,lY p:=λp h=>(List.mem_or_eq_of_mem_set h).elim (hp p) (λe=>e ▸ hq)
theorem yT (l:List UInt8) (hl:l.length<=2 ^ 40):gk Tryz.prog 96 (l.map dL) 184 [] (LE λo=>o.length<=44/\∀ p∈o,lY p):=by
 refine gk.intro ag Tryz.func184 (by kernel_rfl) rfl rfl rfl (Nat.le_of_ble_eq_true rfl) (λw0 base b u i h hi0 hi1 hu=>?_);have hi1:i<=(l.length:Int):=by simpa using hi1
 simp;refine aa.cur (ak l hl 12) hu (by simp) rfl hi0 hi1 (by simp) ?_
 rintro _ i1 h1 ⟨x,hx,rfl⟩ g0 g1
 have hx1:=hx.1;have hx2:=hx.2.2 (by omega);simp;refine aa.cur (mR l hl x hx1 (by omega)) hu (by simp) rfl g0 g1 (by simp) ?_
 rintro _ i2 h2 ⟨o,⟨ho,hp,-⟩,rfl⟩ g0 g1
 have hpB:=hp;have hp:∀ p∈o,lY p:=λp h=>(hp p h).any (by omega)
 simp;intro H;by_cases c0:o=[]
 ·subst c0
  simp;refine aV (.c _ 3) ⟨[],⟨by simp,by simp⟩,rfl⟩ ?_;simp;exact ai rfl g0 g1
 have hpos:0<o.length:=List.length_pos_iff.2 c0;simp [c0];refine aa.cur (ak l hl o.length) hu (by simp) rfl g0 g1 (by simp) ?_
 rintro _ i3 h3 ⟨k,hk,rfl⟩ g0 g1
 obtain ⟨k,rfl⟩:∃ n:Nat,k=n:=⟨k.toNat,by have:=hk.1;omega⟩;have hk:k<o.length:=by have:=hk.2.2 (by omega);omega
 simp;refine aa.cur (ak l hl 12) hu (by simp) rfl g0 g1 (by simp) ?_
 rintro _ i4 h4 ⟨z,hz,rfl⟩ g0 g1
 simp;by_cases z0:z=0
 ·simp [z0]
  refine aa.cur (mS l hl 1 3 (by omega) (by omega)) hu (by simp) rfl g0 g1 (by simp) ?_
  rintro _ i5 h5 ⟨y,hy,rfl⟩ g0 g1
  have hm:=gg (F:=o) (m:=k) hk (g:=λrow=>eh row 0 [CD.v (Value.int IntKind.i64 y)]) (p:=⟨y,o[k].n,o[k].signs⟩) (by simp [Part.row]);simp [hk];refine aV (.c _ 3) ⟨o.set k ⟨y,o[k].n,o[k].signs⟩,⟨by simp;omega,FC hk hp ⟨hy,(hp _ (List.getElem_mem hk)).2⟩⟩,rfl⟩ ?_;have hset:(o.set k ⟨y,o[k].n,o[k].signs⟩).map Part.row=(o.map Part.row).set k (Part.row ⟨y,o[k].n,o[k].signs⟩):=List.map_set;simp [hm];refine ⟨?_,ai rfl g0 g1⟩;intro a ha;rw [<- hset] at ha;obtain ⟨p,-,rfl⟩:=List.mem_map.1 ha;rfl
 by_cases z1:z=1
 ·simp [z1]
  refine aa.cur (mS l hl 0 200 (by omega) (by omega)) hu (by simp) rfl g0 g1 (by simp) ?_
  rintro _ i5 h5 ⟨y,hy,rfl⟩ g0 g1
  have hm:=gg (F:=o) (m:=k) hk (g:=λrow=>eh row 1 [CD.v (Value.int IntKind.i64 y)]) (p:=⟨o[k].kind,y,o[k].signs⟩) (by simp [Part.row]);simp [hk];refine aV (.c _ 3) ⟨o.set k ⟨o[k].kind,y,o[k].signs⟩,⟨by simp;omega,FC hk hp ⟨(hp _ (List.getElem_mem hk)).1,hy,(hp _ (List.getElem_mem hk)).2.2⟩⟩,rfl⟩ ?_;have hset:(o.set k ⟨o[k].kind,y,o[k].signs⟩).map Part.row=(o.map Part.row).set k (Part.row ⟨o[k].kind,y,o[k].signs⟩):=List.map_set;simp [hm];refine ⟨?_,ai rfl g0 g1⟩;intro a ha;rw [<- hset] at ha;obtain ⟨p,-,rfl⟩:=List.mem_map.1 ha;rfl
 by_cases z2:z=2
 ·simp [z2]
  refine bq.open (λ_ h=>h) (k:=128) (i:=k) (j:=2) (k':=60000) (sz':=1) (sz:=3) (H:=H) (rows:=o.map Part.row) (srows:=o[k].signs.map bc) (row:=o[k].row) (by simp) (by simp [hk]) rfl (by simp) (by decide) (by simp [bc]) (by simp) (λG=>?_);have hrow:(lL (o.map Part.row) k 2 (CD.h 60000 G 1 o[k].signs.length))[k]'(by rw [ir];simpa using hk)=[vi o[k].kind,vi o[k].n,CD.h 60000 G 1 o[k].signs.length]:=by simp [lL,Part.row]
  refine drw eok mix [0,1,2,3,4,5,6,7,11,12] [8,9,10,13] (.c 10 8 4 1019 (.c 10 9 0 1019 (.c 10 10 8 1011 (.c 10 13 1009 2 (.l 10 2) .s) .s) .s) .s) ?_;simp [hk,hrow]
  try intros
  refine aa.cur (mS l hl 0 1114111 (by omega) (by omega)) hu (by simp) rfl g0 g1 (by simp) ?_;rintro _ i5 h5 ⟨y,hy,rfl⟩ g0 g1;simp [hk,hrow]
  try intros
  have hps:=hp _ (List.getElem_mem hk);have hp3:=(hpB _ (List.getElem_mem hk)).2.2.1;refine ⟨by omega,λHA=>?_⟩
  have hm:(lL (o.map Part.row) k 2 (CD.h 60000 G 1 o[k].signs.length)).modify k (λrow=>eh row 2 [CD.s (o[k].signs.map bc++[[CD.v (Value.int IntKind.i64 y)]])])=(o.set k ⟨o[k].kind,o[k].n,o[k].signs++[y]⟩).map Part.row:=by
   apply List.ext_getElem (by simp [ir])
   intro q h1 h2;by_cases hq:k=q
   ·subst hq
    simp [lL,Part.row]
   ·simp [lL,hq]
  have hset:(o.set k ⟨o[k].kind,o[k].n,o[k].signs++[y]⟩).map Part.row=(o.map Part.row).set k (Part.row ⟨o[k].kind,o[k].n,o[k].signs++[y]⟩):=List.map_set;rw [hm];refine aV (.c _ 3) ⟨o.set k ⟨o[k].kind,o[k].n,o[k].signs++[y]⟩,⟨by simp;omega,FC hk hp ⟨hps.1,hps.2.1,by simp;omega,λq hq=>(List.mem_append.1 hq).elim (hps.2.2.2 q) (λh=>by simp at h;subst h;exact hy)⟩⟩,rfl⟩ ?_;simp;refine ⟨?_,ai rfl g0 g1⟩;intro a ha;rw [<- hset] at ha;obtain ⟨p,-,rfl⟩:=List.mem_map.1 ha;rfl
 by_cases z3:z=3
 ·simp [z3]
  refine aa.cur (ak l hl 2) hu (by simp) rfl g0 g1 (by simp) ?_
  rintro _ i5 h5 ⟨y,hy,rfl⟩ g0 g1
  simp;intro bA;refine ⟨by omega,λHA=>?_⟩;have hy1:=hy.1;have hy2:=hy.2.2 (by omega);refine aV (.c _ 3) ⟨o++[⟨1,200,[]⟩,⟨3,y,[]⟩],⟨by simp;omega,λq hq=>(List.mem_append.1 hq).elim (hp q) (λh=>by simp at h;rcases h with rfl|rfl<;>exact ⟨by simp,by refine ⟨?_,?_⟩<;>simp<;>omega,by simp,by simp⟩)⟩,rfl⟩ ?_;simp [Part.row];refine ⟨?_,ai rfl g0 g1⟩
  rintro row (⟨a,-,rfl⟩|rfl|rfl)<;>rfl
 simp [z0,z1,z2,z3];refine aV (.c _ 3) ⟨o,⟨by omega,hp⟩,rfl⟩ ?_;simp;exact ai rfl g0 g1
end Go.Proofs.YthckkpphnmmfdaaGreatDoor
namespace Go.Proofs.YthckkpphnmmfdaaGreatDoor
open Go.AM
set_option maxRecDepth 20000
set_option maxHeartbeats 6400000
theorem pG (l:List UInt8) (hl:l.length<=2 ^ 40) (d:Doc) (hd:en d<=2 ^ 30) (hf : -9223372036854775808<=d.fr/\d.fr<=9223372036854775807) :
 gk Tryz.prog 96 (l.map dL) 140 [.agg d.row] (CX λx=>-9223372036854775808<=x/\x<=9223372036854775807):=by
 refine gk.intro ag Tryz.func140 (by kernel_rfl) rfl rfl rfl (Nat.le_of_ble_eq_true rfl) (λw0 base b u i h hi0 hi1 hu=>?_);have hi1:i<=(l.length:Int):=by simpa using hi1
 obtain ⟨n1,n2,n3,n4⟩:=eW hd;have hle:=cF n1;have hs:=aI d;have hh : -9223372036854775808<=ab d/\ab d<=9223372036854775807:=po _;have wl:=Go.IntWalk.i64_in ((d.list.length:Int)+1) (by omega);generalize ab d=hr at hs hh;simp [Doc.row];intro b3;refine aa.cur (fI l hl 6) hu (by simp) rfl hi0 hi1 (by simp) ?_
 rintro _ i1 h1 ⟨q,rfl⟩ g0 g1
 simp
 cases q with
 | true =>
   simp;refine drw eok mix [0,1,2,3] [4,5,6] (.c 4 4 1 14 (.c 4 5 10 4 (.c 4 6 4 0 (.l 4 0) .s) .s) .s) ?_;simp
   try intros
   refine aa.pure (hs) (by simp [Doc.row]) ?_;simp
   try intros
   refine aa.cur (mS l hl d.fr hr hf hh) hu (by simp) rfl g0 g1 (by simp) ?_;rintro _ i2 h2 ⟨y,hy,rfl⟩ g0 g1;simp
   try intros
   refine aV (.c _ 1) ⟨y,hy,rfl⟩ ?_;simp;exact ai rfl g0 g1
 | false =>
   simp;refine drw eok mix [0,2,3,4,5,6] [1,7,8,9] (.c 6 1 32 31 (.c 6 7 17 14 (.c 6 8 0 14 (.c 6 9 14 0 (.l 6 0) .s) .s) .s) .s) ?_;simp [wl]
   try intros
   refine aa.pure (hs) (by simp [Doc.row]) ?_;simp
   try intros
   refine aa.cur (ak l hl ((d.list.length:Int)+1)) hu (by simp) rfl g0 g1 (by simp) ?_;rintro _ i2 h2 ⟨y,hy,rfl⟩ g0 g1;simp
   try intros
   refine aV (.c _ 1) ⟨_,po (hr - y),rfl⟩ ?_;simp;exact ai rfl g0 g1
theorem mP (l:List UInt8) (hl:l.length<=2 ^ 40) (d:Doc) (hd:en d<=2 ^ 30) (rev:Int) :
 gk Tryz.prog 96 (l.map dL) 139 [.agg d.row,.c (vi rev)] (LE λo=>o.length<=44/\∀ p∈o,lY p):=by
 refine gk.intro ag Tryz.func139 (by kernel_rfl) rfl rfl rfl (Nat.le_of_ble_eq_true rfl) (λw0 base b u i h hi0 hi1 hu=>?_);have hi1:i<=(l.length:Int):=by simpa using hi1
 have hs:=iH d hd rev;have ht:=rP d rev;generalize bT d rev=tx at hs ht;obtain ⟨t,ok⟩:=tx;simp only at hs ht;simp [Doc.row];intro b4;refine aa.pure hs (by simp [Doc.row]) ?_;simp;intro Ht
 cases ok with
 | false =>
   simp;refine aa.cur (yT l hl) hu (by simp) rfl hi0 hi1 (by simp) ?_
   rintro _ i2 h2 ⟨o,hp,rfl⟩ g0 g1
   simp;intro Ho;refine aV (.c _ 3) ⟨o,hp,rfl⟩ ?_;simp;exact ai rfl g0 g1
 | true =>
   simp;refine aa.cur (fI l hl 10) hu (by simp) rfl hi0 hi1 (by simp) ?_
   rintro _ i1 h1 ⟨q,rfl⟩ hi0 hi1
   simp
   cases q with
   | true =>
     simp;refine aa.cur (yT l hl) hu (by simp) rfl hi0 hi1 (by simp) ?_
     rintro _ i2 h2 ⟨o,hp,rfl⟩ g0 g1
     simp;intro Ho;refine aV (.c _ 3) ⟨o,hp,rfl⟩ ?_;simp;exact ai rfl g0 g1
   | false =>
     simp;refine aa.cur (mR l hl t.length (by omega) (by omega)) hu (by simp) rfl hi0 hi1 (by simp) ?_
     rintro _ i2 h2 ⟨o,⟨ho,hp,-⟩,rfl⟩ g0 g1
     simp;intro Ho;refine aV (.c _ 3) ⟨o,⟨by omega,λp hq=>(hp p hq).any (by omega)⟩,rfl⟩ ?_;simp;exact ai rfl g0 g1
theorem kT {room rev:Int} (h:bV (bC room rev)):eT room rev=(bC room rev,true):=by unfold eT;rw [if_pos h]
theorem qw {room rev:Int} (h:¬ bV (bC room rev)):eT room rev=(Ring.zero,false):=by unfold eT;rw [if_neg h]
theorem yi (room rev:Int):jx (bC room rev)=0:=by simp [jx,bC,nL,cf]
theorem oX {r:Ring} {e:Entry} (h:¬ (bV r/\bN e/\r.out=false)):cV r e=r:=by unfold cV;rw [if_neg h]
theorem mn {r:Ring} {e:Entry} (h:bV r/\bN e/\r.out=false) (hc:(r.list.length:Int)=r.cap):cV r e=⟨r.cap,r.next,true,[]⟩:=by unfold cV;rw [if_pos h,if_pos hc]
theorem mm {r:Ring} {e:Entry} (h:bV r/\bN e/\r.out=false) (hc:¬ (r.list.length:Int)=r.cap):cV r e=⟨r.cap,r.next,r.out,r.list++[e]⟩:=by unfold cV;rw [if_pos h,if_neg hc]
theorem wU {r:Ring} {n:Int} (h:¬ (bV r/\1<=n)):cD r n=(r,[],1):=by unfold cD;rw [if_neg h]
theorem ns {r:Ring} {n:Int} (h:bV r/\1<=n) (ho:r.out=true):cD r n=(r,[],9):=by unfold cD;rw [if_pos h,if_pos ho]
theorem nq {r:Ring} {n:Int} (h:bV r/\1<=n) (ho:r.out=false) {k:Nat} (hk:k=min n.toNat r.list.length):cD r n=(⟨r.cap,r.next+k,r.out,r.list.drop k⟩,r.list.take k,0):=by
 unfold cD;rw [if_pos h,if_neg (by rw [ho];simp)];subst hk;rcases Nat.le_total n.toNat r.list.length with h1|h1
 ·rw [Nat.min_eq_left h1]
 ·rw [Nat.min_eq_right h1,List.drop_eq_nil_of_le h1,List.drop_eq_nil_of_le (Nat.le_refl _),List.take_of_length_le h1,List.take_of_length_le (Nat.le_refl _)]
theorem lE {r:Ring} {rev:Int} (h:bV r):dB r rev=eT r.cap rev:=by unfold dB;rw [if_pos h]
theorem sL {r:Ring} {rev:Int} (h:¬ bV r):dB r rev=(Ring.zero,false):=by unfold dB;rw [if_neg h]
theorem cI (l:List Doc) (name:ByteArray):(∃ k:Nat,∃ h:k<l.length,bY l name=k/\l[k].name=name)\/bY l name = -1:=by
 rcases kW (λd:Doc=>d.name=name) l with ⟨k,h,e,hp,-⟩|⟨e,-⟩
 ·exact .inl ⟨k,h,e,hp⟩
 ·exact .inr e
theorem iG (l:List Sub) (id:Int):(∃ k:Nat,∃ h:k<l.length,gb l id=k/\l[k].id=id)\/gb l id = -1:=by
 rcases kW (λs:Sub=>s.id=id) l with ⟨k,h,e,hp,-⟩|⟨e,-⟩
 ·exact .inl ⟨k,h,e,hp⟩
 ·exact .inr e
theorem dX {h:Hub} (c:aH h) {k:Nat} (hk:k<h.docs.length):aR h.docs[k]:=(c.2.2.2.1 k hk).1
theorem wM {h:Hub} (c:aH h) {k:Nat} (hk:k<h.subs.length):bV h.subs[k].r/\∃ j:Nat,∃ _:j<h.docs.length,bY h.docs h.subs[k].doc=j:=by
 obtain ⟨-,h2,-,j,hj,e,-⟩:=c.2.2.2.2 k hk;exact ⟨h2,j,hj,e⟩
theorem mq {h:Hub} {name:ByteArray} {t:List Int} (c:¬ (aH h/\aR (dZ name t))):bE h name t=(Hub.zero,1):=by unfold bE;rw [if_neg c]
theorem tZ {h:Hub} {name:ByteArray} {t:List Int} (c:aH h/\aR (dZ name t)) (s:h.shut=true):bE h name t=(Hub.zero,12):=by unfold bE;rw [if_pos c,if_pos s]
theorem t6 {h:Hub} {name:ByteArray} {t:List Int} (c:aH h/\aR (dZ name t)) (s:¬ h.shut=true) (i:0<=bY h.docs name):bE h name t=(Hub.zero,7):=by unfold bE;rw [if_pos c,if_neg s,if_pos i]
theorem t7 {h:Hub} {name:ByteArray} {t:List Int} (c:aH h/\aR (dZ name t)) (s:¬ h.shut=true) (i:¬ 0<=bY h.docs name) (f:h.docs.length=5):bE h name t=(Hub.zero,10):=by unfold bE;rw [if_pos c,if_neg s,if_neg i,if_pos f]
theorem wX {h:Hub} {name:ByteArray} {t:List Int} (c:aH h/\aR (dZ name t)) (s:¬ h.shut=true) (i:¬ 0<=bY h.docs name) (f:¬ h.docs.length=5):bE h name t=(⟨h.shut,gi (dZ name t) h.docs,h.subs,h.last⟩,0):=by
 unfold bE;rw [if_pos c,if_neg s,if_neg i,if_neg f]
noncomputable def ep (name:ByteArray):List Doc->Nat
 | []=>0
 |x::l=>open Classical in if sLt x.name name then ep name l+1 else 0
theorem vp (d:Doc):∀ l:List Doc,gi d l=l.take (ep d.name l)++d::l.drop (ep d.name l)
 | []=>by simp [gi,ep]
 | x :: l => by
   unfold gi ep
   split
   ·rw [vp d l];simp
   ·simp
theorem qC (name:ByteArray):∀ l:List Doc,ep name l<=l.length
 | []=>by simp [ep]
 | x :: l => by
   unfold ep
   split
   ·have:=qC name l;simp;omega
   ·omega
theorem qD {name:ByteArray}:∀ {l:List Doc} {k:Nat},k<=ep name l->∀ hk:k<l.length,sLt l[k].name name ↔ k<ep name l
 | x :: l, 0, _, _ => by
   unfold ep
   split
   ·rename_i h;simpa using h
   ·rename_i h;simpa using h
 | x :: l, k + 1, h, hk => by
   unfold ep at h ⊢
   split at h
   ·rename_i hx
    rw [if_pos hx];have:=qD (name:=name) (l:=l) (k:=k) (by omega) (by simpa using hk);simp only [List.getElem_cons_succ];rw [this];omega
   ·omega
theorem nu {h:Hub} {name:ByteArray} {client seq base:Int} {o:List Part} (c:¬ aH h):bd h name client seq base o=(Hub.zero,0,1):=by unfold bd;rw [if_neg c]
theorem lF {h:Hub} {name:ByteArray} {client seq base:Int} {o:List Part} (c:aH h) (s:h.shut=true):bd h name client seq base o=(Hub.zero,0,12):=by unfold bd;rw [if_pos c,if_pos s]
theorem lG {h:Hub} {name:ByteArray} {client seq base:Int} {o:List Part} (c:aH h) (s:¬ h.shut=true) (i:bY h.docs name = -1):bd h name client seq base o=(Hub.zero,0,6):=by
 unfold bd;rw [if_pos c,if_neg s,i]
 split
 ·rw [if_neg (by omega)]
 ·rfl
theorem nv {h:Hub} {name:ByteArray} {client seq base:Int} {o:List Part} (c:aH h) (s:¬ h.shut=true) {k:Nat} (hk:k<h.docs.length) (i:bY h.docs name=k) :
 bd h name client seq base o=if (bf h.docs[k] client seq base o).2.2=0 then (dT h name k h.docs[k] (bf h.docs[k] client seq base o).1,(bf h.docs[k] client seq base o).2.1,0) else (Hub.zero,0,(bf h.docs[k] client seq base o).2.2):=by
 unfold bd;rw [if_pos c,if_neg s,i];simp only [Int.toNat_natCast];rw [List.getElem?_eq_getElem hk];simp only;rw [if_pos (by omega)]
theorem hO {h:Hub} {name:ByteArray} {room:Int} (c:¬ (aH h/\(1<=room/\room<=6))):aO h name room=(Hub.zero,0,1):=by unfold aO;rw [if_neg c]
theorem je {h:Hub} {name:ByteArray} {room:Int} (c:aH h/\(1<=room/\room<=6)) (s:h.shut=true):aO h name room=(Hub.zero,0,12):=by unfold aO;rw [if_pos c,if_pos s]
theorem jf {h:Hub} {name:ByteArray} {room:Int} (c:aH h/\(1<=room/\room<=6)) (s:¬ h.shut=true) (i:bY h.docs name = -1):aO h name room=(Hub.zero,0,6):=by
 unfold aO;rw [if_pos c,if_neg s,i]
 split
 ·rw [if_neg (by omega)]
 ·rfl
theorem ke {h:Hub} {name:ByteArray} {room:Int} (c:aH h/\(1<=room/\room<=6)) (s:¬ h.shut=true) {k:Nat} (hk:k<h.docs.length) (i:bY h.docs name=k) :
 aO h name room=if h.subs.length=6\/h.last=1000000000 then (Hub.zero,0,10) else (⟨h.shut,h.docs,h.subs++[⟨h.last+1,name,(eT room (ab h.docs[k])).1⟩],h.last+1⟩,h.last+1,0):=by
 unfold aO;rw [if_pos c,if_neg s,i];simp only [Int.toNat_natCast];rw [List.getElem?_eq_getElem hk];simp only;rw [if_pos (by omega)]
theorem mo {h:Hub} {id n:Int} (c:¬ (aH h/\1<=n)):cw h id n=(Hub.zero,[],1):=by unfold cw;rw [if_neg c]
theorem nB {h:Hub} {id n:Int} (c:aH h/\1<=n) (i:gb h.subs id = -1):cw h id n=(Hub.zero,[],8):=by
 unfold cw;rw [if_pos c,i]
 split
 ·rw [if_neg (by omega)]
 ·rfl
theorem qB {h:Hub} {id n:Int} (c:aH h/\1<=n) {k:Nat} (hk:k<h.subs.length) (i:gb h.subs id=k) :
 cw h id n=if (cD h.subs[k].r n).2.2=0 then (⟨h.shut,h.docs,h.subs.set k ⟨h.subs[k].id,h.subs[k].doc,(cD h.subs[k].r n).1⟩,h.last⟩,(cD h.subs[k].r n).2.1,0) else (Hub.zero,[],(cD h.subs[k].r n).2.2):=by
 unfold cw;rw [if_pos c,i];simp only [Int.toNat_natCast];rw [List.getElem?_eq_getElem hk];simp only;rw [if_pos (by omega)]
theorem ny {h:Hub} {id:Int} (c:¬ aH h):bm h id=(Hub.zero,[],0,1):=by unfold bm;rw [if_neg c]
theorem lH {h:Hub} {id:Int} (c:aH h) (i:gb h.subs id = -1):bm h id=(Hub.zero,[],0,8):=by
 unfold bm;rw [if_pos c,i]
 split
 ·rw [if_neg (by omega)]
 ·rfl
theorem nz {h:Hub} {id:Int} (c:aH h) {k:Nat} (hk:k<h.subs.length) (i:gb h.subs id=k) {j:Nat} (hj:j<h.docs.length) (e:bY h.docs h.subs[k].doc=j) :
 bm h id=(⟨h.shut,h.docs,h.subs.set k ⟨h.subs[k].id,h.subs[k].doc,(dB h.subs[k].r (ab h.docs[j])).1⟩,h.last⟩,bX h.docs[j],ab h.docs[j],0):=by
 unfold bm;rw [if_pos c,i];simp only [Int.toNat_natCast];rw [List.getElem?_eq_getElem hk];simp only;rw [if_pos (by omega),e];simp only [Int.toNat_natCast];rw [List.getElem?_eq_getElem hj]
theorem zm {h:Hub} (c:¬ aH h):cN h=(Hub.zero,1):=by unfold cN;rw [if_neg c]
theorem tY {h:Hub} (c:aH h) (s:h.shut=true):cN h=(Hub.zero,12):=by unfold cN;rw [if_pos c,if_pos s]
theorem wW {h:Hub} (c:aH h) (s:¬ h.shut=true):cN h=(⟨true,h.docs,h.subs,h.last⟩,0):=by unfold cN;rw [if_pos c,if_neg s]
theorem A9 {h:Hub} {c:Call} (s:h.shut=true):nt h c=cZ 12:=by unfold nt;rw [if_pos s]
theorem Ba {h:Hub} {c:Call} (s:¬ h.shut=true) (i:bY h.docs c.doc = -1):nt h c=cZ 6:=by
 unfold nt;rw [if_neg s,i]
 split
 ·rw [if_neg (by omega)]
 ·rfl
theorem GN {h:Hub} {c:Call} (s:¬ h.shut=true) {k:Nat} (hk:k<h.docs.length) (i:bY h.docs c.doc=k) :
 nt h c=if c.kind=4 then ⟨0,ab h.docs[k],bX h.docs[k],[]⟩ else ⟨(dQ h.docs[k] c.n).2,0,[],(dQ h.docs[k] c.n).1⟩:=by
 unfold nt;rw [if_neg s,i];simp only [Int.toNat_natCast];rw [List.getElem?_eq_getElem hk];simp only;rw [if_pos (by omega)]
theorem uO {l:List Doc} {i:Nat} {a b c d e:CD}:∀ row∈(l.map Doc.row).set i [a,b,c,d,e],row.length=5:=by
 intro row h;rcases List.mem_or_eq_of_mem_set h with h|rfl
 ·rw [List.mem_map] at h
  obtain ⟨a,-,rfl⟩:=h;rfl
 ·rfl
theorem uN {l:List Sub} {i:Nat} {a b c d e f:CD}:∀ row∈(l.map Sub.row).set i [a,b,c,d,e,f],row.length=6:=by
 intro row h;rcases List.mem_or_eq_of_mem_set h with h|rfl
 ·rw [List.mem_map] at h
  obtain ⟨a,-,rfl⟩:=h;rfl
 ·rfl
set_option maxHeartbeats 3200000
theorem pF (r:Ring) (hl:jx r<=2 ^ 30):au Tryz.prog 217 [.agg r.row] (.one (.agg r.res)):=by
 refine pci ag Tryz.func217 (λw0 base=>?_);unfold jx at hl;simp [Ring.row];intro b1 b2;refine drw eok mix [0,1,2,3,4,5,6,7] [8,9,10] (.c 8 8 1 254 (.c 8 9 84 170 (.c 8 10 170 0 (.l 8 0) .s) .s) .s) ?_;simp
 try intros
 refine aa.pure (eH r.list hl) (by simp) ?_;simp
 try intros
 simp [Ring.res]
theorem Gi (s:Sub) (hl:kM s<=2 ^ 30):au Tryz.prog 174 [.agg s.row] (.one (.agg s.res)):=by
 refine pci ag Tryz.func174 (λw0 base=>?_);unfold kM at hl;simp [Sub.row];intro b1 b2;refine drw eok mix [0,1,2,3,4,5] [6,7,8] (.c 6 6 1 62 (.c 6 7 20 42 (.c 6 8 42 0 (.l 6 0) .s) .s) .s) ?_;simp
 try intros
 refine aa.pure (pF s.r (by omega)) (by simp [Ring.row]) ?_;simp [Ring.res]
 try intros
 simp [Sub.res]
theorem cP (h:Hub) (hl:ja h<=2 ^ 30):au Tryz.prog 129 [.agg h.row] (.one (.agg h.res)):=by
 refine pci ag Tryz.func129 (λw0 base=>?_);obtain ⟨sh,docs,subs,last⟩:=h;unfold ja at hl;simp only at hl;have hle:=cF (f:=en) (B:=2 ^ 30) (l:=docs) (by omega);have hls:=cF (f:=kM) (B:=2 ^ 30) (l:=subs) (by omega);simp [Hub.row];intro b1 b2 b3
 refine ar eok (λx:Nat×Hd=>x.1<=docs.length) (λx=>⟨44,0,[(16,.v (.int .i64 x.1)),(15,.v (.int .i64 docs.length)),(14,.ro (docs.map Doc.row)),(1,.p 16 b1 0),(2,.p 32 b2 0),(3,.p 48 b3 0)],
  [(48, .vars b3 48 [.v (.bool sh), .sl 5000 x.2 5 0 x.1, .nil, .v (.int .i64 last)]), (32, .vars b2 48 [.v (.bool false), .nil, .nil, .v (.int .i64 0)]),
   (16,.vars b1 48 [.v (.bool sh),.ro (docs.map Doc.row),.ro (subs.map Sub.row),.v (.int .i64 last)]),(5000,.rows x.2 5 ((docs.take x.1).map Doc.row) true)]⟩) (λx=>docs.length - x.1) (0,none) (by simp) (by simp) (λx hi=>Ent.refl ?_)
 obtain ⟨i,H⟩:=x;simp only at hi ⊢;by_cases hlt:i<docs.length
 ·have hm:=gf (f:=en) (B:=2 ^ 30) (l:=docs) (by omega) (List.getElem_mem hlt)
  have e1:min i docs.length=i:=by omega
  simp [hlt,Doc.row];intro b5;refine drw eok mix [0,1,2,6] [3,4,5,7] (.c 4 3 2 13 (.c 4 4 0 13 (.c 4 5 4 9 (.c 4 7 9 0 (.l 4 0) .s) .s) .s) .s) ?_;simp
  try intros
  refine aa.pure (j7 docs[i] hm) (by simp [Doc.row]) ?_;simp [Doc.res]
  try intros
  simp [e1];refine ⟨by omega,λH'=>Ent.refl ⟨i+1,by omega,by omega,H',?_⟩⟩;simp;exact ⟨aB (by omega),eV (f:=Doc.row) hlt⟩
 have hm:i=docs.length:=by omega
 subst hm;simp
 refine ar eok (λx:Nat×Hd=>x.1<=subs.length) (λx=>⟨44,0,[(31,.v (.int .i64 x.1)),(30,.v (.int .i64 subs.length)),(29,.ro (subs.map Sub.row)),(2,.p 32 b2 0),(3,.p 48 b3 0)],
  [(48, .vars b3 48 [.v (.bool sh), .sl 5000 H 5 0 docs.length, .sl 5001 x.2 6 0 x.1, .v (.int .i64 last)]), (32, .vars b2 48 [.v (.bool false), .nil, .nil, .v (.int .i64 0)]),
   (5000,.rows H 5 (docs.map Doc.row) true),(5001,.rows x.2 6 ((subs.take x.1).map Sub.row) true)]⟩) (λx=>subs.length - x.1) (0,none) (by simp) (by simp) (λx hi=>Ent.refl ?_)
 obtain ⟨i,H'⟩:=x;simp only at hi ⊢;by_cases hlt:i<subs.length
 ·have hm:=gf (f:=kM) (B:=2 ^ 30) (l:=subs) (by omega) (List.getElem_mem hlt)
  have e1:min i subs.length=i:=by omega
  simp [hlt,Sub.row];intro b7;refine drw eok mix [0,1,2,6] [3,4,5,7] (.c 4 3 2 13 (.c 4 4 0 13 (.c 4 5 4 9 (.c 4 7 9 0 (.l 4 0) .s) .s) .s) .s) ?_;simp
  try intros
  refine aa.pure (Gi subs[i] hm) (by simp [Sub.row]) ?_;simp [Sub.res]
  try intros
  simp [e1];refine ⟨by omega,λH''=>Ent.refl ⟨i+1,by omega,by omega,H'',?_⟩⟩;simp;exact ⟨aB (by omega),eV (f:=Sub.row) hlt⟩
 have hm:i=subs.length:=by omega
 subst hm;simp [Hub.res]
theorem vr {l:List Entry} {k:Nat} (_h:k<=l.length):cut (l.map Entry.row) 0 k=(l.take k).map Entry.row:=by
 rw [d8,List.drop_zero,List.map_take]
theorem GX {l:List Entry} {row:List CD} (h:row∈l.map Entry.row):row.length=3:=by
 rw [List.mem_map] at h;obtain ⟨a,-,rfl⟩:=h;rfl
theorem nd (room rev:Int) (hr : -4611686018427387904<=rev/\rev<=4611686018427387904):au Tryz.prog 177 [.c (vi room),.c (vi rev)] (.tup [.agg (eT room rev).1.res,.c (.v (.bool (eT room rev).2)) 1]):=by
 refine pci ag Tryz.func177 (λw0 base=>?_);simp;intro b4;by_cases c1:1000000000<rev
 ·have h:¬ bV (bC room rev):=λh=>by have:=h.2.2.1;simp [bC] at this;omega
  simp [c1,qw h,Ring.res,Ring.zero]
 have ew:Go.IntKind.i64.wrap (rev+1)=rev+1:=Go.IntWalk.i64_in _ (by omega);simp [c1,ew];intro b6;refine aa.pure (gB (bC room rev) (by rw [yi];omega)) (by simp [bC,Ring.row]) ?_;by_cases c2:bV (bC room rev)
 ·have e:=kT c2
  rw [show bC room rev=⟨room,rev+1,false,[]⟩ from rfl] at c2;simp [c2,e,Ring.res,bC]
 ·simp [ah c2,qw c2,Ring.res,Ring.zero]
theorem rV (r:Ring) (hl:jx r<=2 ^ 30) (e:Entry) (he:ca e<=2 ^ 30):au Tryz.prog 182 [.agg r.row,.agg e.row] (.one (.agg (cV r e).res)):=by
 refine pci ag Tryz.func182 (λw0 base=>?_);have hno:=@oX r e;have hfull:=@mn r e;have hroom:=@mm r e;have hle:=cF (f:=ca) (B:=2 ^ 30) (l:=r.list) (by unfold jx at hl;omega);simp [Ring.row,Entry.row];intro b2 b3 b4;refine aa.pure (pF r hl) (by simp [Ring.row]) ?_;simp [Ring.res];intro H b5;refine aa.pure (gB r (by omega)) (by simp [Ring.row]) ?_;by_cases c1:bV r
 rotate_left
 ·simp [ah c1,hno (λh=>c1 h.1)]
 simp [c1];refine aa.pure (ic e (by omega)) (by simp [Entry.row]) ?_;by_cases c2:bN e
 rotate_left
 ·simp [ah c2,hno (λh=>c2 h.2.1)]
 simp [c2]
 cases c3:r.out with
 |true=>simp [hno (λh=>by rw [c3] at h;exact absurd h.2.2 (by simp)),c3]
 |false=>
 simp;by_cases c4:(r.list.length:Int)=r.cap
 ·have e1:=hfull ⟨c1,c2,c3⟩ c4
  simp [c4,e1]
 have e1:=hroom ⟨c1,c2,c3⟩ c4;simp [c4];refine drw eok mix [0,1,2,6] [3,4,5,7] (.c 4 3 2 13 (.c 4 4 0 13 (.c 4 5 4 9 (.c 4 7 9 0 (.l 4 0) .s) .s) .s) .s) ?_;simp
 try intros
 refine aa.pure (sB e he) (by simp [Entry.row]) ?_;simp [Entry.res]
 try intros
 refine ⟨by omega,?_⟩;rw [e1];simp [c3,Entry.row]
 try (rintro row (⟨a,-,rfl⟩|rfl)<;>rfl)
theorem rW (r:Ring) (hl:jx r<=2 ^ 30) (n:Int):au Tryz.prog 179 [.agg r.row,.c (vi n)] (.tup [.agg (cD r n).1.res,.c (.s ((cD r n).2.1.map Entry.row)) 3,.c (vi (cD r n).2.2) 1]):=by
 refine pci ag Tryz.func179 (λw0 base=>?_);have hno:=@wU r n;have hout:=@ns r n;have hyes:=@nq r n;have hnl:nL ca r.list<=2 ^ 30:=by unfold jx at hl;omega
 have hle:=cF hnl;simp [Ring.row];intro b2 b4;refine aa.pure (pF r hl) (by simp [Ring.row]) ?_;simp [Ring.res];intro H b7;refine aa.pure (gB r (by omega)) (by simp [Ring.row]) ?_;by_cases c1:bV r
 rotate_left
 ·simp [ah c1,hno (λh=>c1 h.1)]
 simp [c1];by_cases c2:1<=n
 rotate_left
 ·have c2':n<1:=by omega
  simp [c2',hno (λh=>c2 h.2)]
 have c2':¬ n<1:=by omega
 simp [c2'];have hnx:=c1.2.2.1
 cases c3:r.out with
 |true=>simp [hout ⟨c1,c2⟩ c3,c3]
 |false=>
 simp
 have hdrop:∀ k,nL ca (r.list.drop k)<=2 ^ 30:=λk=>by
  have h:=j5 (f:=ca) (r.list.take k) (r.list.drop k);rw [List.take_append_drop] at h;omega
 by_cases c4:(r.list.length:Int)<n
 ·have e1:=hyes ⟨c1,c2⟩ c3 (k:=r.list.length) (by omega)
  have ew:Go.IntKind.i64.wrap (r.next+(r.list.length:Int))=r.next+r.list.length:=Go.IntWalk.i64_in _ (by omega);have cd:=mU (l:=r.list) (k:=r.list.length) (Nat.le_refl _);have ct:=vr (l:=r.list) (k:=r.list.length) (Nat.le_refl _);rw [List.drop_eq_nil_of_le (Nat.le_refl _)] at cd e1;simp at cd;simp [c4];refine aa.pure (eH [] (by simp [nL,cf])) (by simp [cd]) ?_;simp [ew];intro H2;refine drw eok mix [0,1,2,3,4,8] [5,6,7] (.c 6 5 2 61 (.c 6 6 32 29 (.c 6 7 28 1 (.l 6 1) .s) .s) .s) ?_;simp
  try intros
  refine aa.pure (eH r.list hnl) (by simp) ?_;simp
  try intros
  rw [e1];simp [c3]
 obtain ⟨k,rfl⟩:∃ k:Nat,n=k:=⟨n.toNat,by omega⟩;have hk:k<=r.list.length:=by omega
 have e1:=hyes ⟨c1,c2⟩ c3 (k:=k) (by simp;omega);have ew:Go.IntKind.i64.wrap (r.next+(k:Int))=r.next+k:=Go.IntWalk.i64_in _ (by omega);have cd:=mU hk;have ct:=vr hk;simp [c4,hk];refine aa.pure (eH (r.list.drop k) (hdrop k)) (by simp [cd]) ?_;simp [ew];intro H2;refine drw eok mix [0,1,2,3,4,8] [5,6,7] (.c 6 5 2 61 (.c 6 6 32 29 (.c 6 7 28 1 (.l 6 1) .s) .s) .s) ?_;simp [hk]
 try intros
 refine aa.pure (eH (r.list.take k) (ws hnl)) (by simp [ct]) ?_;simp [hk]
 try intros
 rw [e1];simp [c3];exact ⟨λrow h=>GX (List.mem_of_mem_drop h),λrow h=>GX (List.mem_of_mem_take h)⟩
theorem pt (r:Ring) (hl:jx r<=2 ^ 30) (rev:Int) (hr : -4611686018427387904<=rev/\rev<=4611686018427387904):au Tryz.prog 180 [.agg r.row,.c (vi rev)] (.tup [.agg (dB r rev).1.res,.c (.v (.bool (dB r rev).2)) 1]):=by
 refine pci ag Tryz.func180 (λw0 base=>?_);have hno:=@sL r rev;have hyes:=@lE r rev;simp [Ring.row];intro b2 b4;refine aa.pure (gB r (by omega)) (by simp [Ring.row]) ?_;by_cases c1:bV r
 rotate_left
 ·simp [ah c1,hno c1,Ring.res,Ring.zero]
 simp [c1];have hc:=nd r.cap rev hr;rw [<- hyes c1] at hc;generalize dB r rev=R at hc ⊢;obtain ⟨R1,R2⟩:=R;refine aa.pure hc (by simp) ?_;simp [Ring.res]
set_option maxHeartbeats 1600000
theorem oq (name:ByteArray) (t:List Int) (h1:name.size<=2 ^ 28) (h2:t.length<=2 ^ 28):au Tryz.prog 126 [.c (.v (.string name)),.c (.s (t.map bc))] (.tup [.agg (eJ name t).1.res,.c (.v (.bool (eJ name t).2)) 1]):=by
 refine pci ag Tryz.func126 (λw0 base=>?_);have hn:=MS name t;simp;intro b4 b8;refine ⟨by omega,λH9 b6=>?_⟩;refine aa.pure (eC (dZ name t) (by omega)) (by simp [Doc.row,dZ]) ?_;by_cases c:aR (dZ name t)
 ·have e:eJ name t=(dZ name t,true):=by unfold eJ;rw [if_pos c]
  simp [c,e,Doc.res];simp [dZ]
 ·have e:eJ name t=(Doc.zero,false):=by unfold eJ;rw [if_neg c]
  simp [ah c,e,Doc.res,Doc.zero]
theorem wb (name:ByteArray) (_:name.size<=9223372036854775807) (h0:name.size<=2 ^ 20) (t:List Int) (ft:t.length<=9223372036854775807/\∀ n∈t,sF n) (h1:t.length<=2 ^ 20) (many:Int) (_:sF many) :
 au Tryz.prog 108 [.c (.v (.string name)),.c (.s (t.map bc)),.c (vi many)] (.tup [.agg (fh name t many).1.res,.c (.v (.bool (fh name t many).2)) 1]):=by
 refine pci ag Tryz.func108 (λw0 base=>?_);have hno:=A8 (name:=name) (t:=t) (many:=many);have hyes:=qz (name:=name) (t:=t) (many:=many);simp;intro b6;refine aa.pure (oq name t (by omega) (by omega)) (by simp) ?_;generalize eJ name t=D at hno hyes ⊢;obtain ⟨d,ok⟩:=D;simp only at hno hyes ⊢;simp [Doc.res];intro H2 H3 H4 b8
 cases ok with
 | false =>
   have e:=hno (by simp);simp [e,Net.res,Net.zero,Doc.zero]
 |true=>
 simp;refine aa.pure (cg many 1 4) (by simp) ?_;by_cases c:1<=many/\many<=4
 rotate_left
 ·have e:=hno (λh=>c h.2)
  simp [ah c,e,Net.res,Net.zero,Doc.zero]
 have e:=hyes ⟨rfl,c⟩;simp [c];intro b10;obtain ⟨m,rfl⟩:∃ m:Nat,many=m:=⟨many.toNat,by omega⟩;simp only [Int.toNat_natCast] at e
 refine ar eok (λx:Nat×Hd=>x.1<=m) (λx=>⟨48,0,[(11,.v (.int .i64 ((x.1:Int)+1))),(2,.v (.int .i64 m)),(1,.ro (t.map bc)),(6,.p 96 b6 0),(10,.p 160 b10 0)],
  [(160, .vars b10 58 [.v (.string d.name), .v (.int .i64 d.fr), .sl 274 H2 1 0 d.text.length, .sl 275 H3 3 0 d.list.length, .sl 276 H4 3 0 d.seen.length, .sl 5000 x.2 7 0 x.1]), (96, .vars b6 58 [.v (.string ⟨#[]⟩), .v (.int .i64 0), .nil, .nil, .nil, .nil]),
   (274,.rows H2 1 (d.text.map bc) true),(275,.rows H3 3 (d.list.map Entry.row) true),(276,.rows H4 3 (d.seen.map Seen.row) true),(5000,.rows x.2 7 ((fe t x.1).map Rep.row) true)]⟩) (λx=>m - x.1) (0,none) (by simp) (by simp [fe]) (λx hi=>Ent.refl ?_)
 obtain ⟨i,H⟩:=x;simp only at hi ⊢;by_cases hlt:i<m
 ·have hlt':(i:Int)+1<=m:=by omega
  have ew2:Go.IntKind.i64.wrap ((i:Int)+1+1)=(i:Int)+1+1:=Go.IntWalk.i64_in _ (by omega);simp [hlt'];refine aa.pure (v7 ((i:Int)+1) (by unfold sF;omega) 0 (by unfold sF;omega) 0 (by unfold sF;omega) t ft h1) (by simp) ?_;have hs:=yE t i;generalize dx ((i:Int)+1) 0 0 t=Q at hs ⊢;obtain ⟨r,ok2⟩:=Q;simp only at hs ⊢;simp [Rep.res];intro G3 G5 G6 b12;simp [go];intro b45;refine ⟨by omega,λH'=>Ent.refl ⟨i+1,by omega,by omega,H',?_⟩⟩;rw [hs];simp [Rep.row,ew2]
 ·have hm:i=m:=by omega
  subst hm;have hlt':¬ (i:Int)+1<=i:=by omega
  simp [hlt',e,Net.res,go]
set_option maxHeartbeats 6400000
theorem lC {h:Hub} {B:Nat} (hl:ja h<=B):nL en h.docs<=B/\nL kM h.subs<=B:=by unfold ja at hl;omega
theorem wt {l:List Sub} {k:Nat} (hk:k<l.length) (r:Ring):(l.map Sub.row).modify k (λrow=>eh row 2 [.v (.int .i64 r.cap),.v (.int .i64 r.next),.v (.bool r.out),.s (r.list.map Entry.row)])=(l.set k ⟨l[k].id,l[k].doc,r⟩).map Sub.row:=by
 rw [List.map_set];refine List.ext_getElem (by simp) (λj h1 h2=>?_);rw [List.getElem_modify,List.getElem_set]
 split
 ·rename_i e
  subst e;simp [Sub.row]
 ·simp
theorem om (h:Hub) (hl:ja h<=2 ^ 40) (id:Int):au Tryz.prog 178 [.agg h.row,.c (vi id)] (.one (.c (vi (gb h.subs id)) 1)):=by
 refine pci ag Tryz.func178 (λw0 base=>?_);obtain ⟨sh,docs,l,last⟩:=h;have hle:=cF (lC hl).2;simp only at hle;simp [Hub.row];intro b2;refine bg.intro eok (λi:Nat=>i<=l.length/\∀ j,j<i->∀ hj:j<l.length,¬ l[j].id=id) (λi=>⟨21,0,[(10,.v (.int .i64 i)),(9,.v (.int .i64 l.length)),(8,.ro (l.map Sub.row)),(1,.v (.int .i64 id))],[]⟩) (λi=>l.length - i) 0 (by simp) (by simp) (λi hi=>?_);by_cases hlt:i<l.length
 ·simp [hlt,Sub.row]
  intro b;by_cases c:l[i].id=id
  ·have e:gb l id=i:=rt hlt c hi.2
   simp [c,e]
  ·simp [c]
   exact ⟨i+1,⟨by omega,λj hj hjl=>by
    by_cases hji:j=i
    ·subst hji;exact c
    ·exact hi.2 j (by omega) hjl⟩,by omega,aB (by omega)⟩
 ·have e:gb l id = -1:=pP (λj hj=>hi.2 j (by omega) hj)
  simp [hlt,e]
theorem tM (h:Hub) (hl:ja h<=2 ^ 30):au Tryz.prog 142 [.agg h.row] (.tup [.agg (cN h).1.res,.c (vi (cN h).2) 1]):=by
 refine pci ag Tryz.func142 (λw0 base=>?_);simp [Hub.row];intro b1 b2;refine aa.pure (eB h hl) (by simp [Hub.row]) ?_;by_cases c1:aH h
 rotate_left
 ·simp [ah c1,zm c1,Hub.res,Hub.zero]
 simp [c1]
 cases c2:h.shut with
 |true=>simp [tY c1 c2,Hub.res,Hub.zero]
 |false=>
 have e:=wW c1 (by rw [c2];simp);simp;refine aa.pure (cP h hl) (by simp [Hub.row,c2]) ?_;simp [Hub.res,e]
theorem iW (h:Hub) (hl:ja h<=2 ^ 28) (name:ByteArray) (room:Int):au Tryz.prog 133 [.agg h.row,.c (.v (.string name)),.c (vi room)]
 (.tup [.agg (aO h name room).1.res,.c (vi (aO h name room).2.1) 1,.c (vi (aO h name room).2.2) 1]):=by
 refine pci ag Tryz.func133 (λw0 base=>?_);have hls:=cF (lC hl).2;simp [Hub.row];intro b3 b6;refine aa.pure (dv h (by omega) name) (by simp [Hub.row]) ?_;simp;refine aa.pure (eB h (by omega)) (by simp [Hub.row]) ?_;by_cases c1:aH h
 rotate_left
 ·simp [ah c1,hO (λh=>c1 h.1),Hub.res,Hub.zero]
 simp [c1];refine aa.pure (cg room 1 6) (by simp) ?_;by_cases c2:1<=room/\room<=6
 rotate_left
 ·simp [ah c2,hO (λh=>c2 h.2),Hub.res,Hub.zero]
 simp [c2]
 cases c3:h.shut with
 |true=>simp [je ⟨c1,c2⟩ c3,Hub.res,Hub.zero]
 |false=>
 simp;rcases cI h.docs name with ⟨k,hk,e,-⟩|e;rotate_left
 ·simp [e,jf ⟨c1,c2⟩ (by rw [c3];simp) e,Hub.res,Hub.zero]
 have hk0:¬ (k:Int)<0:=by omega
 have hat:=ke ⟨c1,c2⟩ (by rw [c3];simp) hk e;simp [e,hk0];have hlast:=c1.2.2.1;by_cases c4:h.subs.length=6
 ·have c4':(h.subs.length:Int)=6:=by omega
  rw [if_pos (.inl c4)] at hat;simp [c4',hat,Hub.res,Hub.zero]
 have c4':¬ (h.subs.length:Int)=6:=by omega
 simp [c4'];by_cases c5:h.last=1000000000
 ·rw [if_pos (.inr c5)] at hat
  simp [c5,hat,Hub.res,Hub.zero]
 rw [if_neg (λh=>h.elim c4 c5)] at hat;have ew:Go.IntKind.i64.wrap (h.last+1)=h.last+1:=Go.IntWalk.i64_in _ (by omega);have hh:=aE (dX c1 hk);obtain ⟨d,hd⟩:∃ d,h.docs[k]=d:=⟨_,rfl⟩;rw [hd] at hat hh;simp [c5,hk,hd,Doc.row];refine aa.pure (aI d) (by simp [Doc.row]) ?_;simp;have hc:=nd room (ab d) (by omega);generalize eT room (ab d)=R at hc hat;obtain ⟨⟨cp,nx,ot,ls⟩,ok⟩:=R;refine aa.pure hc (by simp) ?_;simp [Ring.res];intro H10 b10;refine aa.pure (cP h (by omega)) (by simp [Hub.row,c3]) ?_;simp [Hub.res,ew,c3];intro H1 H2 b12 b13;refine ⟨by omega,λH=>?_⟩;refine drw eok mix [0,1,2,4,5] [3] (.c 5 3 16 15 (.l 5 15) .s) ?_;simp
 try intros
 rw [hat];simp [c3,Sub.row]
 try (rintro row (⟨a,-,rfl⟩|rfl)<;>rfl)
theorem nj (h:Hub) (hl:ja h<=2 ^ 28) (id n:Int):au Tryz.prog 134 [.agg h.row,.c (vi id),.c (vi n)]
 (.tup [.agg (cw h id n).1.res,.c (.s ((cw h id n).2.1.map Entry.row)) 3,.c (vi (cw h id n).2.2) 1]):=by
 refine pci ag Tryz.func134 (λw0 base=>?_);have hls:=cF (lC hl).2;simp [Hub.row];intro b3 b6;refine aa.pure (om h (by omega) id) (by simp [Hub.row]) ?_;simp;refine aa.pure (eB h (by omega)) (by simp [Hub.row]) ?_;by_cases c1:aH h
 rotate_left
 ·simp [ah c1,mo (λh=>c1 h.1),Hub.res,Hub.zero]
 simp [c1];by_cases c2:1<=n
 rotate_left
 ·have c2':n<1:=by omega
  simp [c2',mo (λh=>c2 h.2),Hub.res,Hub.zero]
 have c2':¬ n<1:=by omega
 simp [c2'];rcases iG h.subs id with ⟨k,hk,e,-⟩|e;rotate_left
 ·simp [e,nB ⟨c1,c2⟩ e,Hub.res,Hub.zero]
 have hk0:¬ (k:Int)<0:=by omega
 have hat:=qB ⟨c1,c2⟩ hk e;have hm:=jy (f:=kM) (lC hl).2 hk;unfold kM at hm;have hmod:=wt hk;obtain ⟨s,hs⟩:∃ s,h.subs[k]=s:=⟨_,rfl⟩;rw [hs] at hat hm hmod;have hc:=rW s.r (by omega) n;generalize cD s.r n=R at hc hat;obtain ⟨r,list,code⟩:=R;simp only at hat hc;simp [e,hk0,hk,hs,Sub.row];refine aa.pure hc (by simp [Ring.row]) ?_;simp [Ring.res];intro H10 H11 b10;by_cases c3:code=0
 rotate_left
 ·rw [if_neg c3] at hat
  simp [c3,hat,Hub.res,Hub.zero]
 rw [if_pos c3] at hat;simp [c3];refine aa.pure (cP h (by omega)) (by simp [Hub.row]) ?_;simp [Hub.res,hk]
 try intros
 rw [hat];simp [hmod r];exact uN
theorem lk (h:Hub) (hl:ja h<=2 ^ 28) (id:Int):au Tryz.prog 135 [.agg h.row,.c (vi id)]
 (.tup [.agg (bm h id).1.res,.c (.s ((bm h id).2.1.map bc)) 1,.c (vi (bm h id).2.2.1) 1,.c (vi (bm h id).2.2.2) 1]):=by
 refine pci ag Tryz.func135 (λw0 base=>?_);have hls:=cF (lC hl).2;simp [Hub.row];intro b2 b4;refine aa.pure (om h (by omega) id) (by simp [Hub.row]) ?_;simp;refine aa.pure (eB h (by omega)) (by simp [Hub.row]) ?_;by_cases c1:aH h
 rotate_left
 ·simp [ah c1,ny c1,Hub.res,Hub.zero]
 simp [c1];rcases iG h.subs id with ⟨k,hk,e,-⟩|e;rotate_left
 ·simp [e,lH c1 e,Hub.res,Hub.zero]
 have hk0:¬ (k:Int)<0:=by omega
 obtain ⟨hro,j,hj,ej⟩:=wM c1 hk;have hat:=nz c1 hk e hj ej;have hm:=jy (f:=kM) (lC hl).2 hk;have hdn:=jy (f:=en) (lC hl).1 hj;have hh:=aE (dX c1 hj);unfold kM at hm;have hmod:=wt hk;obtain ⟨s,hs⟩:∃ s,h.subs[k]=s:=⟨_,rfl⟩;obtain ⟨d,hd⟩:∃ d,h.docs[j]=d:=⟨_,rfl⟩;rw [hs] at hat hm hmod ej;rw [hd] at hat hdn hh;have hc:=pt s.r (by omega) (ab d) (by omega);generalize dB s.r (ab d)=R at hc hat;obtain ⟨r,ok⟩:=R;simp only at hat hc;simp [e,hk0];refine oa (λx:Nat=>[(9,.p 144 x 0)]) (λx=>[(144,.vars x 55 [.v (.string d.name),.v (.int .i64 d.fr),.ro (d.text.map bc),.ro (d.list.map Entry.row),.ro (d.seen.map Seen.row)])]) [1,2,4,5,6,7,8] ?_ ?_
 ·refine drw eok mix [0,1,2,3,4,5,6,7,8] [9,10,11,12,13] (.c 9 9 65 446 (.c 9 10 128 318 (.c 9 11 0 318 (.c 9 12 0 318 (.c 9 13 318 0 (.l 9 0) .s) .s) (.c 9 12 0 318 (.c 9 11 0 318 (.c 9 13 318 0 (.l 9 0) .s) .s) .s)) (.c 9 12 0 446 (.c 9 10 128 318 (.c 9 11 0 318 (.c 9 13 318 0 (.l 9 0) .s) .s) .s) .s)) (.c 9 12 0 511 (.c 9 9 65 446 (.c 9 10 128 318 (.c 9 11 0 318 (.c 9 13 318 0 (.l 9 0) .s) .s) .s) .s) .s)) ?_
  simp [hk,hs,Sub.row]
  try intros
  repeat' first
   |(refine aa.pure (dv h (by omega) s.doc) (by simp [Hub.row]) ?_;simp [hj,hd,Doc.row,ej];try intros)
   |(rw [Trc];refine ⟨?_,?_⟩<;>(try simp [hk,hs,hj,hd,Sub.row,Doc.row])<;>try intros)
 rintro b9
 simp;refine aa.pure (cP h (by omega)) (by simp [Hub.row]) ?_;simp [Hub.res];intro H1 H2 b10;refine drw eok mix [0,1,2,3,4,5,6,7,8,9,15,16] [10,11,12,13,14,17] (.c 12 10 4 4091 (.c 12 11 8 4083 (.c 12 12 0 4083 (.c 12 13 0 4083 (.c 12 14 0 4083 (.c 12 17 4081 2 (.l 12 2) .s) .s) .s) .s) .s) .s) ?_;simp [hk,hs,Sub.row]
 try intros
 refine aa.pure (aI d) (by simp [Doc.row]) ?_;simp
 try intros
 refine aa.pure (hc) (by simp [Ring.row]) ?_;simp [Ring.res,hk]
 try intros
 refine drw eok mix [0,1,3,8] [2,4,5,6,7] (.c 4 2 4 11 (.c 4 4 2 9 (.c 4 5 8 1 (.c 4 6 0 1 (.c 4 7 0 1 (.l 4 1) .s) .s) .s) .s) .s) ?_;simp
 try intros
 refine aa.pure (gC d (by omega)) (by simp [Doc.row]) ?_;simp
 try intros
 refine aa.pure (aI d) (by simp [Doc.row]) ?_;simp
 try intros
 rw [hat];simp [hmod r];exact uN
theorem Ae (h:Hub) (hl:ja h<=2 ^ 28) (_c1:aH h) (c:Call):au Tryz.prog 141 [.agg h.row,.agg c.row] (.one (.agg (nt h c).res)):=by
 refine pci ag Tryz.func141 (λw0 base=>?_);simp [Hub.row,Call.row];intro b2 b3 b4;refine aa.pure (dv h (by omega) c.doc) (by simp [Hub.row]) ?_;simp
 cases c3:h.shut with
 |true=>simp [A9 c3,Answer.res,cZ]
 |false=>
 simp;rcases cI h.docs c.doc with ⟨k,hk,e,-⟩|e;rotate_left
 ·simp [e,Ba (by rw [c3];simp) e,Answer.res,cZ]
 have hk0:¬ (k:Int)<0:=by omega
 have hat:=GN (c:=c) (by rw [c3];simp) hk e;have hdn:=jy (f:=en) (lC hl).1 hk;obtain ⟨d,hd⟩:∃ d,h.docs[k]=d:=⟨_,rfl⟩;rw [hd] at hat hdn;simp [e,hk0];by_cases c4:c.kind=4
 ·rw [if_pos c4] at hat
  simp [c4];refine drw eok mix [0,1,2,3,4,6,7,8,9,10] [5,11,12,13] (.c 10 5 32 991 (.c 10 11 1 990 (.c 10 12 0 990 (.c 10 13 990 0 (.l 10 0) .s) .s) .s) .s) ?_;simp [hk,hd,Doc.row]
  try intros
  refine aa.pure (gC d (by omega)) (by simp [Doc.row,Doc.row]) ?_;simp
  try intros
  refine aa.pure (aI d) (by simp [Doc.row,Doc.row]) ?_;simp
  try intros
  rw [hat];simp [Answer.res]
 rw [if_neg c4] at hat;have hf:=p5 d (by omega) c.n;generalize dQ d c.n=R at hat hf;obtain ⟨list,code⟩:=R;simp only at hat hf;simp [c4];refine drw eok mix [0,1,2,3,4,5,6] [7,8,9,10,11,12] (.c 7 7 5 122 (.c 7 8 0 122 (.c 7 9 0 122 (.c 7 10 0 122 (.c 7 11 122 0 (.c 7 12 0 0 (.l 7 0) .s) .s) .s) .s) .s) .s) ?_;simp [hk,hd,Doc.row]
 try intros
 refine aa.pure (hf) (by simp [Doc.row,Doc.row]) ?_;simp
 try intros
 rw [hat];simp [Answer.res]
end Go.Proofs.YthckkpphnmmfdaaGreatDoor
