import Derived.Test.YthckkpphnmmfdaaGreatDoorPB
import Derived.Test.YthckkpphnmmfdaaGreatDoorPC
import Derived.Lib.AtoiAllCases
import Derived.Lib.AppendIntMem
import Derived.WalkKit
import Derived.BigCall
import Derived.Test.YthckkpphnmmfdaaGreatDoorMF
namespace Go.Proofs.YthckkpphnmmfdaaGreatDoor
open Go.AM
set_option maxRecDepth 20000
def chn (L:List Part):Prop:=∀ i,∀ h:i+1<L.length,L[i].kind≠L[i+1].kind
theorem q8:chn []:=λi h=>by simp at h
theorem vg {p:Part} {L:List Part} (h:chn (p::L)):chn L/\∀ h0:0<L.length,p.kind≠L[0].kind:=by
 refine ⟨λi hi=>?_,λh0=>?_⟩
 ·have:=h (i+1) (by simp;omega)
  simpa using this
 ·have:=h 0 (by simp;omega)
  simpa using this
theorem fo {L:List Part} {p:Part} (h:chn L) (hp:∀ h:0<L.length,(L[L.length - 1]'(by omega)).kind≠p.kind):chn (L++[p]):=by
 intro i hi;simp at hi;by_cases c:i+1<L.length
 ·rw [List.getElem_append_left (by omega),List.getElem_append_left c];exact h i c
 ·have h0:0<L.length:=by omega
  have:=hp h0;rw [List.getElem_append_left (by omega),List.getElem_append_right (by omega)];have e:i=L.length - 1:=by omega
  subst e
  simpa using this
theorem xr {L:List Part} {i:Nat} {p:Part} (h:chn L) (hi:i<L.length) (hk:p.kind=L[i].kind):chn (L.set i p):=by
 intro j hj;simp at hj;have h1:=h j hj;rw [List.getElem_set,List.getElem_set]
 split
 ·rename_i e;subst e
  rw [if_neg (by omega),hk];exact h1
 ·split
  ·rename_i e;subst e;rw [hk];exact h1
  ·exact h1
def ux (L:List Part):Prop:=∀ h:0<L.length,(L[L.length - 1]'(by omega)).kind=1
theorem kf {L:List Part} {p:Part}:(((L++[p])[(L++[p]).length - 1]'(by simp))).kind=p.kind:=by simp
theorem ma {L:List Part} {P:List Int} {D:Int} (h:chn L) (hl:ux L):chn (ar L P D):=by
 unfold ar
 split
 ·split
  ·rw [List.nil_append]
   exact fo h λh0=>by rw [hl h0];simp
  ·simpa using h
 ·have h1:chn (L++[⟨2,0,P⟩]):=fo h λh0=>by rw [hl h0];simp
  split
  ·rw [<- List.append_assoc]
   exact fo h1 λh0=>by rw [kf];simp
  ·simpa using h1
theorem uA {L:List Part} {n:Int} (h:chn L):chn (a8 L n)/\ux (a8 L n):=by
 unfold a8
 split
 ·rename_i h0
  split
  ·rename_i hk
   refine ⟨xr h (by omega) hk.symm,λh1=>?_⟩;simp
  ·rename_i hk
   refine ⟨fo h λ_=>hk,λh1=>?_⟩;rw [kf]
 ·exact ⟨fo (L:=[]) q8 (λh=>by simp at h),λ_=>rfl⟩
theorem lX (o:List Part):∀ (i:Nat),i<=o.length->chn (aF (o.take i)).1/\ux (aF (o.take i)).1
 | 0, _ => by
   simp only [aF,List.take_zero,List.foldl_nil];exact ⟨q8,λh=>by simp at h⟩
 | i + 1, hi => by
   obtain ⟨h1,h2⟩:=lX o i (by omega);rw [cK (show i<o.length by omega)];generalize aF (o.take i)=s at h1 h2;unfold bW
   split
   ·exact ⟨h1,h2⟩
   ·split
    ·exact ⟨h1,h2⟩
    ·split
     ·exact uA (ma h1 h2)
     ·exact ⟨h1,h2⟩
theorem pF (o:List Part):chn (normal o):=by
 obtain ⟨h1,h2⟩:=lX o o.length (Nat.le_refl _);rw [List.take_length] at h1 h2;exact ma h1 h2
def lg:At->List Part->List Part
 | .k,[]=>[⟨1,1,[]⟩]
 | .k,p::l=>if p.kind=1 then ⟨1,p.n+1,[]⟩::l else ⟨1,1,[]⟩::p::l
 | .d,[]=>[⟨3,1,[]⟩]
 | .d,p::l=>if p.kind=3 then ⟨3,p.n+1,[]⟩::l else ⟨3,1,[]⟩::p::l
 | .p c,[]=>[⟨2,0,[c]⟩]
 | .p c,p::l=>if p.kind=2 then ⟨2,0,c::p.signs⟩::l else ⟨2,0,[c]⟩::p::l
def grp (l:List At):List Part:=l.foldr lg []
theorem uN {L:List Part} (h:∀ h0:0<L.length,L[0].kind≠1):∀ n:Nat,(List.replicate (n+1) At.k).foldr lg L=⟨1,(n:Int)+1,[]⟩::L
 | 0 => by
   cases L with
   |nil=>rfl
   |cons p l=>have:=h (by simp);simp at this;simp [lg,this]
 | n + 1 => by
   rw [List.replicate_succ,List.foldr_cons,uN h n];simp [lg]
theorem uO {L:List Part} (h:∀ h0:0<L.length,L[0].kind≠3):∀ n:Nat,(List.replicate (n+1) At.d).foldr lg L=⟨3,(n:Int)+1,[]⟩::L
 | 0 => by
   cases L with
   |nil=>rfl
   |cons p l=>have:=h (by simp);simp at this;simp [lg,this]
 | n + 1 => by
   rw [List.replicate_succ,List.foldr_cons,uO h n];simp [lg]
theorem uM {L:List Part} (h:∀ h0:0<L.length,L[0].kind≠2):∀ (Q:List Int) (c:Int),((c::Q).map At.p).foldr lg L=⟨2,0,c::Q⟩::L
 | [], c => by
   cases L with
   |nil=>rfl
   |cons p l=>have:=h (by simp);simp at this;simp [lg,this]
 | d :: Q, c => by
   rw [List.map_cons,List.foldr_cons,uM h Q d];simp [lg]
theorem l9:∀ {L:List Part},(∀ q∈L,Shp q)->chn L->grp (aT L)=L
 | [],_,_=>rfl
 | p :: L, hs, hc => by
   obtain ⟨h1,h2⟩:=vg hc;have ih:=l9 (λq hq=>hs q (List.mem_cons_of_mem _ hq)) h1;have hp:=hs p (List.mem_cons_self ..);unfold grp at ih ⊢;rw [aT,List.foldr_append,ih];have hpos:=hp.pos;have hn:=hp.n;unfold ats;obtain ⟨kd,n,sg⟩:=p;by_cases k2:kd=2
   ·subst k2
    obtain ⟨e1,-⟩:=hp.put rfl;simp only at e1;subst e1;simp only [if_true]
    cases sg with
    |nil=>simp [psz] at hpos
    |cons c Q=>exact uM (λh0=>by have:=h2 h0;simpa using this.symm) Q c
   ·have e1:=hp.run k2
    simp only at e1 hn;subst e1;have hz:psz ⟨kd,n,[]⟩=n.toNat:=by simp [psz]
    rw [hz] at hpos;obtain ⟨m,hm⟩:∃ m,n.toNat=m+1:=⟨n.toNat - 1,by omega⟩;have hnm:n=(m:Int)+1:=by omega
    rw [hz,hm,if_neg k2];by_cases k3:kd=3
    ·subst k3
     simp only [if_true];rw [uO (λh0=>by have:=h2 h0;simpa using this.symm),hnm]
    ·have k1:kd=1:=by rcases hp.k with h|h|h<;>simp only at h<;>omega
     subst k1;rw [if_neg (by simp),uN (λh0=>by have:=h2 h0;simpa using this.symm),hnm]
theorem qJ:∀ (l:List At) (P:List Int) (n:Nat),nA [] 0 (nA P n l)=nA P n l
 | [], P, n => by
   have h2:=qM n P 0 [];rw [List.append_nil,Nat.zero_add] at h2;rw [nA,qI,List.nil_append,h2,nA]
 | .k :: l, P, n => by
   rw [nA,qI,qM,List.nil_append,Nat.zero_add,nA,qJ l]
 | .p c::l,P,n=>by rw [nA,qJ l]
 | .d::l,P,n=>by rw [nA,qJ l]
theorem jV {o:List Part} (h:∀ p∈o,aw p):normal o=grp (gw (aT o)):=by
 rw [<- fB h,l9 (f6 h) (pF o)]
theorem k8 {o:List Part} (h:b7 o):normal (normal o)=normal o:=by
 have h2:=(lT h).1;rw [jV h2.1.1,fB h.1.1,jV h.1.1];unfold gw;rw [qJ]
theorem lc {o:List Part} (h:b7 o):aI (normal o):=by
 have h2:=(lT h).1;refine ⟨h2,?_⟩;unfold aP;rw [if_pos h2,k8 h]
theorem bI {o:List Part} (h:b7 o):aI (aP o):=by
 have e:aP o=normal o:=by unfold aP;rw [if_pos h]
 rw [e];exact lc h
def bZ (x:UInt8):Prop:=48<=x.toNat/\x.toNat<=57
def dt (a:Nat) (l:List UInt8):Nat:=l.foldl (λa x=>a*10+(x.toNat - 48)) a
def ec (l:List UInt8):Nat:=dt 0 l
theorem mf (l:List UInt8) (x:UInt8):ec (l++[x])=ec l*10+(x.toNat - 48):=by simp [ec,dt]
theorem jx {m:Nat} (h:m<10):(UInt8.ofNat (48+m)).toNat=48+m:=by simp;omega
theorem nj:∀ m:Nat,∀ x∈Lib.decDigits m,bZ x:=by
 intro m
 induction m using Nat.strongRecOn with
 | ind m ih =>
   intro x hx;by_cases h:m<10
   ·rw [eH h] at hx
    rw [List.mem_singleton.1 hx];unfold bZ;rw [jx h];omega
   ·rw [el h] at hx
    rcases List.mem_append.1 hx with hx|hx
    ·exact ih (m / 10) (by omega) x hx
    ·rw [List.mem_singleton.1 hx]
     have h2:m % 10<10:=Nat.mod_lt _ (by omega);unfold bZ;rw [jx h2];omega
theorem gO:∀ m:Nat,ec (Lib.decDigits m)=m:=by
 intro m
 induction m using Nat.strongRecOn with
 | ind m ih =>
   by_cases h:m<10
   ·rw [eH h]
    show 0*10+((UInt8.ofNat (48+m)).toNat - 48)=m
    rw [jx h];omega
   ·rw [el h,mf,ih (m / 10) (by omega),jx (Nat.mod_lt _ (by omega))]
    omega
theorem kt:∀ (k m:Nat),m<10 ^ (k+1)->(Lib.decDigits m).length<=k+1:=by
 intro k
 induction k with
 |zero=>intro m h;rw [eH (by omega)];simp
 | succ k ih =>
   intro m h;by_cases h9:m<10
   ·rw [eH h9];simp
   ·rw [el h9]
    have:=ih (m / 10) (by rw [Nat.pow_succ] at h;omega);simp;omega
theorem ni (m:Nat):Lib.decDigits m≠[]:=by
 by_cases h:m<10
 ·rw [eH h];simp
 ·rw [el h];simp
theorem dl {n:Int} (h:0<=n/\n<=1000000000):ag n=Lib.decDigits n.toNat:=by unfold ag;rw [if_pos h]
theorem iF (n:Int):∀ x∈ag n,bZ x:=by
 unfold ag
 split
 ·exact nj _
 ·simp
theorem dH (n:Int) {c:UInt8} (hc:¬ bZ c):c ∉ ag n:=λh=>hc (iF n c h)
open Classical in
noncomputable def ai (l:List UInt8):Int×Bool:=if ∃ m:Nat,m<=1000000000/\Lib.decDigits m=l then ((ec l:Int),true) else (0,false)
theorem aX {n:Int} (h:0<=n/\n<=1000000000):ai (ag n)=(n,true):=by
 rw [dl h];unfold ai;rw [if_pos ⟨n.toNat,by omega,rfl⟩,gO]
 congr 1
 omega
theorem nI {l:List UInt8} (h:(ai l).2=true):(0<=(ai l).1/\(ai l).1<=1000000000)/\ag (ai l).1=l:=by
 unfold ai at h ⊢;by_cases hm:∃ m:Nat,m<=1000000000/\Lib.decDigits m=l
 ·rw [if_pos hm]
  obtain ⟨m,h1,rfl⟩:=hm;rw [gO];refine ⟨by omega,?_⟩;rw [dl (by omega),Int.toNat_natCast]
 ·rw [if_neg hm] at h
  cases h
theorem dC {l:List UInt8} (h:∀ m:Nat,m<=1000000000->Lib.decDigits m≠l):ai l=(0,false):=by
 unfold ai;rw [if_neg]
 rintro ⟨m,h1,h2⟩
 exact h m h1 h2
theorem nJ {l:List UInt8} {x:UInt8} (hx:x∈l) (hd:¬ bZ x):ai l=(0,false):=dC λm _ e=>hd (nj m x (by rw [e];exact hx))
theorem iu {l:List UInt8} (h:l.length=0\/10<l.length):ai l=(0,false):=dC λm hm e=>by
 subst e;rcases h with h|h
 ·exact ni m (List.length_eq_zero_iff.1 h)
 ·have:=kt 9 m (by omega);omega
theorem jL {l:List UInt8} {v:Int} (h:ag v=l) (hl:l≠[]):ai l=(v,true):=by
 by_cases hv:0<=v/\v<=1000000000
 ·rw [<- h,aX hv]
 ·unfold ag at h;rw [if_neg hv] at h;exact absurd h.symm hl
theorem kX {l:List UInt8} (hl:l≠[]):(ag (ec l)=l->ai l=((ec l:Int),true))/\(¬ ag (ec l)=l->ai l=(0,false)):=
 ⟨λh=>jL h hl,λh=>dC λm hm e=>h (by subst e;rw [gO,dl (by omega),Int.toNat_natCast])⟩
theorem lP:∀ (l:List UInt8) (a:Nat),(∀ x∈l,bZ x)->dt a l<=100000000000->Lib.parseUint10 a l=.ok (dt a l)
 | [],a,_,_=>by simp [Lib.parseUint10,dt]
 | x :: l, a, h, hb => by
   have hx:48<=x.toNat/\x.toNat<=57:=h x (by simp);have e:dt a (x::l)=dt (a*10+(x.toNat - 48)) l:=by simp [dt]
   rw [e] at hb ⊢
   have hge:∀ (l:List UInt8) (a:Nat),a<=dt a l:=by
    intro l
    induction l with
    |nil=>intro a;simp [dt]
    |cons y l ih=>intro a;have:=ih (a*10+(y.toNat - 48));simp only [dt,List.foldl_cons] at this ⊢;omega
   have:=hge l (a*10+(x.toNat - 48));unfold Lib.parseUint10;rw [if_pos hx,if_neg (by omega),if_neg (by omega)];exact lP l _ (λy hy=>h y (by simp [hy])) hb
theorem oW {m:Nat} (h:m<=1000000000):Lib.atoiAll (Lib.decDigits m)=.ok (m:Int):=by
 have hd:=nj m
 have hp:Lib.parseMag (Lib.decDigits m)=.ok m:=by
  unfold Lib.parseMag;rw [if_neg (ni m)];have e:=gO m;unfold ec at e;rw [lP _ 0 hd (by rw [e];omega),e]
 cases hl:Lib.decDigits m with
 |nil=>exact absurd hl (ni m)
 | cons c r =>
   rw [hl] at hp hd;have hc:=hd c (by simp);unfold bZ at hc;rw [Lib.atoiAll_plain c r (by omega) (by omega),hp];unfold Lib.signless;simp;omega
theorem mv {l:List UInt8} {v:Int} (h:Lib.atoiAll l=.ok v):(ag v=l->ai l=(v,true))/\(¬ ag v=l->ai l=(0,false)):=by
 refine ⟨λe=>jL e (λe=>by subst e;cases h),λe=>dC λm hm h2=>?_⟩;subst h2;rw [oW hm] at h
 cases h
 exact e (by rw [dl (by omega),Int.toNat_natCast])
theorem gi {l:List UInt8} (h:∀ v,Lib.atoiAll l≠.ok v):ai l=(0,false):=dC λm hm e=>h m (by rw [<- e,oW hm])
def br {α β:Type} (f:α->Option β):List α->Option (List β)
 | []=>some []
 | x :: l => match f x with
   |none=>none
   |some y=>(br f l).map (y :: ·)
theorem fE {α β:Type} {f:α->Option β} {W:List α} {i:Nat} (h:i<W.length):br f (W.drop i)=(f W[i]).bind λy=>(br f (W.drop (i+1))).map (y :: ·):=by
 rw [List.drop_eq_getElem_cons h,br]
 cases f W[i]<;>rfl
theorem fC {α β:Type} {f:α->Option β}:∀ {W:List α} {l:List β},br f W=some l->W.length=l.length/\∀ i,∀ h:i<W.length,∀ h':i<l.length,f W[i]=some l[i]
 | [],l,h=>by simp [br] at h;subst h;simp
 | x :: W, l, h => by
   unfold br at h
   cases hx:f x with
   |none=>rw [hx] at h;cases h
   | some y =>
     rw [hx] at h
     cases hW:br f W with
     |none=>rw [hW] at h;cases h
     | some r =>
       rw [hW] at h
       cases h
       obtain ⟨h1,h2⟩:=fC hW;refine ⟨by simp [h1],λi hi hi'=>?_⟩
       cases i with
       |zero=>simpa using hx
       |succ i=>simpa using h2 i (by simpa using hi) (by simpa using hi')
theorem gC {α β:Type} {f:α->Option β} {g:β->α}:∀ {l:List β},(∀ y∈l,f (g y)=some y)->br f (l.map g)=some l
 | [],_=>rfl
 | y :: l, h => by
   rw [List.map_cons,br,h y (by simp),gC (λz hz=>h z (by simp [hz]))];rfl
def cm (l:List Int):List UInt8:=Lib.join (l.map ag) [46]
open Classical in
noncomputable def bU (l:List Int):List UInt8:=if bj l then (if l=[] then [45] else cm l) else []
open Classical in
noncomputable def cR (x:List UInt8):Option Int:=if (ai x).2=true then some (ai x).1 else none
open Classical in
noncomputable def cD (x:List UInt8):Option Int:=if (ai x).2=true/\cP (ai x).1 then some (ai x).1 else none
noncomputable def bN (s:List UInt8):Option (List Int):=br cR (ak 46 s)
noncomputable def aG (s:List UInt8):Option (List Int):=if s=[45] then some [] else br cD (ak 46 s)
def gu {α:Type}:Option (List α)->List α×Bool
 |some l=>(l,true)
 |none=>([],false)
noncomputable def eh (s:List UInt8):List Int×Bool:=gu (aG s)
theorem E7 (n:Int):(46:UInt8) ∉ ag n:=dH n (by unfold bZ;decide)
theorem Cx (n:Int):(32:UInt8) ∉ ag n:=dH n (by unfold bZ;decide)
theorem dR {l:List Int} (h:l≠[]):ak 46 (cm l)=l.map ag:=dS 46 _ (by simpa using h) (λw hw=>by
 obtain ⟨n,-,rfl⟩:=List.mem_map.1 hw;exact E7 n)
theorem fY {n:Int} (h:cP n):0<=n/\n<=1000000000:=by unfold cP at h;omega
theorem gr {l:List Int} (h:∀ n∈l,0<=n/\n<=1000000000) (hl:l≠[]):bN (cm l)=some l:=by
 unfold bN;rw [dR hl,gC λn hn=>by unfold cR;rw [aX (h n hn)];simp]
theorem tJ {l:List Int} (hl:l≠[]):cm l≠[45]:=λe=>by
 have h:=dR hl;rw [e] at h
 cases l with
 |nil=>exact hl rfl
 | cons n l =>
   have h1:ak 46 [45]=[[45]]:=by decide
   rw [h1] at h;simp at h;have:=iF n 45 (by rw [<- h.1];simp);unfold bZ at this;exact absurd this (by decide)
theorem ur {W:List (List UInt8)} {l:List Int} {f:List UInt8->Option Int} (hf:∀ x y,f x=some y->(ai x).2=true/\y=(ai x).1) (h:br f W=some l):l.map ag=W:=by
 obtain ⟨h1,h2⟩:=fC h
 apply List.ext_getElem
 ·simp [h1]
 ·intro i hi hi'
  have:=hf _ _ (h2 i hi' (by simpa using hi));simp only [List.getElem_map];rw [this.2];exact (nI this.1).2
theorem eZ {x:List UInt8} {y:Int} (h:cD x=some y):(ai x).2=true/\y=(ai x).1/\cP y:=by
 unfold cD at h
 split at h
 ·rename_i hc;have e:=Option.some.inj h;rw [<- e];exact ⟨hc.1,rfl,hc.2⟩
 ·exact absurd h (by simp)
theorem jI {s:List UInt8} {l:List Int} (h:aG s=some l):bj l/\bU l=s:=by
 unfold aG at h;by_cases hs:s=[45]
 ·rw [if_pos hs] at h
  cases h
  have h0:bj []:=λn hn=>absurd hn List.not_mem_nil
  refine ⟨h0,?_⟩;unfold bU;rw [if_pos h0,if_pos rfl,hs]
 ·rw [if_neg hs] at h
  have hW:=ur (λx y hxy=>⟨(eZ hxy).1,(eZ hxy).2.1⟩) h
  have hok:bj l:=λn hn=>by
   obtain ⟨h1,h2⟩:=fC h;obtain ⟨i,hi,rfl⟩:=List.getElem_of_mem hn;exact (eZ (h2 i (by omega) hi)).2.2
  have hl:l≠[]:=λe=>dy 46 s (by rw [<- hW,e];rfl)
  refine ⟨hok,?_⟩;unfold bU;rw [if_pos hok,if_neg hl];unfold cm;rw [hW,kj]
def ab (p:Part):List UInt8:=if p.kind=1 then 107::ag p.n else if p.kind=2 then 112::cm p.signs else 100::ag p.n
open Classical in
noncomputable def ap (o:List Part):List UInt8:=if b7 o then (if aP o=[] then [45] else Lib.join ((aP o).map ab) [32]) else []
noncomputable def bK (x:List UInt8):Option Part:=match x with
 | []=>none
 |c::y=>if y=[] then none else if c=112 then (aG y).map (λl=>⟨2,0,l⟩) else (cR y).map λn=>⟨if c=107 then 1 else if c=100 then 3 else 0,n,[]⟩
noncomputable def cl (x:List UInt8):Option Part:=match x with
 | []=>none
 |c::y=>(bN y).map λl=>if c=107 then ⟨1,l.getD 0 0,[]⟩ else if c=100 then ⟨3,l.getD 0 0,[]⟩ else ⟨2,0,l⟩
theorem j9 {α β:Type} {f:α->Option β} {W:List α} {l:List β} (h:br f W=some l):l.length=W.length:=(fC h).1.symm
theorem nU {y:List UInt8} {l:List Int} (h:bN y=some l):0<l.length:=by
 have:=j9 h;have:=dy 46 y;have:0<(ak 46 y).length:=List.length_pos_iff.2 this;omega
theorem mt:eh [45]=([],true):=by unfold eh aG;rw [if_pos rfl];rfl
theorem gv {o:List Part} (h:aI o):∀ p∈o,Shp p/\p.n<=200:=by
 have e:aP o=normal o:=by unfold aP;rw [if_pos h.1]
 intro p hp;have h1:=h.1.1.1 p hp;refine ⟨?_,h1.bounds.2.2.1⟩;rw [<- h.2,e] at hp;exact f6 h.1.1.1 p hp
theorem qu {p:Part} (h:Shp p) (hn:p.n<=200):0<=p.n/\p.n<=1000000000:=by have:=h.n;omega
theorem jt {p:Part} (h:Shp p) (h2:p.kind=2):p.signs≠[]:=λe=>by
 have:=h.pos;have h0:=(h.put h2).1;unfold psz at this;simp [e,h0] at this
theorem fX {l:List Int} (h:bj l) (hl:l≠[]):bU l=cm l:=by unfold bU;rw [if_pos h,if_neg hl]
theorem jJ {l:List Int} (h:bj l) (hl:l≠[]):aG (cm l)=some l:=by
 unfold aG
 rw [if_neg (tJ hl), dR hl, gC λn hn => by
     unfold cD;rw [aX (fY (h n hn)),if_pos ⟨rfl,h n hn⟩]]
theorem f3 {n:Int} (h:0<=n/\n<=1000000000):ag n≠[]:=by rw [dl h];exact ni _
theorem rm {l:List Int} (h:∀ n∈l,0<=n/\n<=1000000000) (hl:l≠[]):cm l≠[]:=λe=>by
 have h':=dR hl;rw [e] at h'
 cases l with
 |nil=>exact hl rfl
 | cons n l =>
   have h1:ak 46 []=[[]]:=rfl;rw [h1] at h';simp at h';exact f3 (h n (by simp)) h'.1
theorem lS {n:Int} (h:0<=n/\n<=1000000000):cR (ag n)=some n:=by unfold cR;rw [aX h];simp
theorem iy {n:Int} (h:0<=n/\n<=1000000000):bN (ag n)=some [n]:=by
 have e:ag n=cm [n]:=by unfold cm;rw [List.map_singleton,Lib.join_one]
 rw [e];exact gr (λm hm=>by rw [List.mem_singleton.1 hm];exact h) (by simp)
theorem et {p:Part} (h:Shp p) (hn:p.n<=200):bK (ab p)=some p:=by
 obtain ⟨k,n,s⟩:=p;have h0:=qu h hn;rcases h.k with hk|hk|hk<;>simp only at hk h0<;>subst hk
 ·have hs:s=[]:=h.run (by simp)
  subst hs;simp [ab,bK,f3 h0,lS h0]
 ·have hp:=h.put rfl
  simp only at hp;have hs:s≠[]:=jt h rfl;have hn0:n=0:=hp.1;subst hn0;have h1:=rm (λm hm=>fY (hp.2 m hm)) hs;simp [ab,bK,h1,jJ hp.2 hs]
 ·have hs:s=[]:=h.run (by simp)
  subst hs;simp [ab,bK,f3 h0,lS h0]
theorem jD {p:Part} (h:Shp p) (hn:p.n<=200):cl (ab p)=some p:=by
 obtain ⟨k,n,s⟩:=p;have h0:=qu h hn;rcases h.k with hk|hk|hk<;>simp only at hk h0<;>subst hk
 ·have hs:s=[]:=h.run (by simp)
  subst hs;simp [ab,cl,iy h0]
 ·have hp:=h.put rfl
  simp only at hp;have hs:s≠[]:=jt h rfl;have hn0:n=0:=hp.1;subst hn0;simp [ab,cl,gr (λm hm=>fY (hp.2 m hm)) hs]
 ·have hs:s=[]:=h.run (by simp)
  subst hs;simp [ab,cl,iy h0]
theorem kl {c:UInt8} {sep:UInt8}:∀ {l:List (List UInt8)},c≠sep->(∀ w∈l,c ∉ w)->c ∉ Lib.join l [sep]
 | [],_,_=>by simp [Lib.join_nil]
 | [w],_,h=>by rw [Lib.join_one];exact h w (by simp)
 | w :: v :: r, hc, h => by
   have e:Lib.join (w::v::r) [sep]=w++sep::Lib.join (v::r) [sep]:=by
    rw [Lib.join_cons,Lib.join_cons];simp [Lib.joinTail]
   rw [e];intro hm;rcases List.mem_append.1 hm with hm|hm
   ·exact h w (by simp) hm
   ·rcases List.mem_cons.1 hm with hm|hm
    ·exact hc hm
    ·exact kl (l:=v::r) hc (λu hu=>h u (by simp [hu])) hm
theorem tI {c:UInt8} (hc:¬ bZ c) (h46:c≠46) (l:List Int):c ∉ cm l:=kl h46 λw hw=>by
 obtain ⟨n,-,rfl⟩:=List.mem_map.1 hw;exact dH n hc
theorem iA {c:UInt8} (hc:¬ bZ c) (h46:c≠46) (h1:c≠107) (h2:c≠112) (h3:c≠100) (p:Part):c ∉ ab p:=by
 unfold ab
 split
 ·simp [h1,dH p.n hc]
 ·split
  ·simp [h2,tI hc h46]
  ·simp [h3,dH p.n hc]
theorem zz (p:Part):(32:UInt8) ∉ ab p:=iA (by unfold bZ;decide) (by decide) (by decide) (by decide) (by decide) p
theorem zy (p:Part):(44:UInt8) ∉ ab p:=iA (by unfold bZ;decide) (by decide) (by decide) (by decide) (by decide) p
theorem wm (p:Part):ab p≠[]:=by unfold ab;(repeat' split)<;>simp
theorem fb {o:List Part} (h:aI o):ap o=if o=[] then [45] else Lib.join (o.map ab) [32]:=by
 unfold ap;rw [if_pos h.1,h.2]
theorem k7 {o:List Part} (h:b7 o):ap (aP o)=ap o:=by
 have h1:=bI h;rw [fb h1];unfold ap;rw [if_pos h]
theorem wn {p:Part} {l:List UInt8}:ab p≠45::l:=by
 unfold ab
 (repeat' split)<;>simp
theorem ey {o:List Part} (h:aI o) (ho:o≠[]):ap o≠[45]/\ak 32 (ap o)=o.map ab:=by
 have e:ap o=Lib.join (o.map ab) [32]:=by rw [fb h,if_neg ho]
 have hs:ak 32 (ap o)=o.map ab:=by
  rw [e]
  exact dS 32 _ (by simpa using ho) (λw hw=>by
   obtain ⟨p,-,rfl⟩:=List.mem_map.1 hw;exact zz p)
 refine ⟨λe2=>?_,hs⟩;rw [e2] at hs;have h1:ak 32 [45]=[[45]]:=by decide
 rw [h1] at hs
 cases o with
 |nil=>exact ho rfl
 | cons p o =>
   simp at hs;exact wn hs.1.symm
open Classical in
noncomputable def aO (s:List UInt8):List Part×Bool:=if h:∃ o,aI o/\ap o=s then (h.choose,true) else ([],false)
theorem ex {o:List Part} {f:List UInt8->Option Part} (hf:∀ p,Shp p->p.n<=200->f (ab p)=some p) (h:aI o) (ho:o≠[]):br f (ak 32 (ap o))=some o:=by
 rw [(ey h ho).2,gC λp hp=>hf p (gv h p hp).1 (gv h p hp).2]
theorem cF:aI []:=by
 have hp:bC []:=⟨by simp,by simp⟩;have:b7 []:=⟨hp,by simp [cp,aR,hp,bi],by simp [ib,aR,hp,bi]⟩;refine ⟨this,?_⟩;unfold aP;rw [if_pos this];rfl
theorem ez:ap []=[45]:=by rw [fb cF,if_pos rfl]
theorem pz {a b:List Part} (ha:aI a) (hb:aI b) (h:ap a=ap b):a=b:=by
 by_cases h1:a=[]
 ·subst h1
  by_cases h2:b=[]
  ·exact h2.symm
  ·rw [ez] at h;exact absurd h.symm (ey hb h2).1
 ·by_cases h2:b=[]
  ·subst h2;rw [ez] at h;exact absurd h (ey ha h1).1
  ·have e1:=ex (f:=bK) (λp h hn=>et h hn) ha h1
   rw [h,ex (f:=bK) (λp h hn=>et h hn) hb h2] at e1;exact (Option.some.inj e1).symm
theorem ei {o:List Part} (h:aI o):aO (ap o)=(o,true):=by
 unfold aO;have hx:∃ o',aI o'/\ap o'=ap o:=⟨o,h,rfl⟩;rw [dif_pos hx];rw [pz hx.choose_spec.1 h hx.choose_spec.2]
theorem hY {s:List UInt8} (h:∀ o,aI o->ap o≠s):aO s=([],false):=by
 unfold aO;rw [dif_neg]
 rintro ⟨o,h1,h2⟩
 exact h o h1 h2
theorem jK:aO [45]=([],true):=by
 have:=ei cF
 rwa [ez] at this
theorem dQ (s:List UInt8):aI (aO s).1:=by
 unfold aO
 split
 ·rename_i h;exact h.choose_spec.1
 ·exact cF
theorem jC {s:List UInt8} {o:List Part} {f:List UInt8->Option Part} (hf:∀ p,Shp p->p.n<=200->f (ab p)=some p) (hs:s≠[45]) (h:aI o) (e:ap o=s):br f (ak 32 s)=some o:=by
 subst e;refine ex hf h λe=>hs ?_
 rw [e,ez]
theorem it {s:List UInt8} {f:List UInt8->Option Part} (hf:∀ p,Shp p->p.n<=200->f (ab p)=some p) (hs:s≠[45]) (h:br f (ak 32 s)=none):aO s=([],false):=
 hY λo ho e=>by rw [jC hf hs ho e] at h;cases h
theorem tE {s:List UInt8} {out:List Part} (hs:s≠[45]) (h:br bK (ak 32 s)=some out):(aI out/\ap out=s->aO s=(out,true))/\(¬ (aI out/\ap out=s)->aO s=([],false)):=
 ⟨λ⟨h1,h2⟩=>by rw [<- h2,ei h1],λhn=>hY λo ho e=>hn (by
  rw [jC (λp h hn=>et h hn) hs ho e] at h
  cases h
  exact ⟨ho,e⟩)⟩
theorem tF {s:List UInt8} {out:List Part} (hs:s≠[45]) (h:br cl (ak 32 s)=some out):(b7 out/\ap out=s->aO s=(aP out,true))/\(¬ (b7 out/\ap out=s)->aO s=([],false)):=
 ⟨λ⟨h1,h2⟩=>by rw [<- h2,<- k7 h1,ei (bI h1)],λhn=>hY λo ho e=>hn (by
  rw [jC (λp h hn=>jD h hn) hs ho e] at h
  cases h
  exact ⟨ho.1,e⟩)⟩
open Go.AM Go.RowKit
def lE (ev:Value):Prop:=ev=.nilIface\/∃ t p,ev=.iface t p
def sJ (w:World):Prop:=(∃ ev,w.cell? ⟨Tryz.laysC172_ren.g 15,0,none⟩=some ev/\lE ev)/\(∃ ev,w.cell? ⟨Tryz.laysC172_ren.g 16,0,none⟩=some ev/\lE ev)
def LT (w:World):Prop:=
 Lib.TabIs Tryz.prog w "internal/strconv.uint64pow10" .u64 Lib.pow10Tab ∧ (∃ m, w.cell? ⟨1, 0, none⟩ = some (.int .i64 m)) ∧ sJ w
theorem im {w w':World} (h:BelowF (λc=>c<w.heap.size) w w') {a:Addr} {v:Value} (hc:w.cell? a=some v):w'.cell? a=some v:=by
 unfold World.cell? at hc ⊢
 cases hb:w.heap[a.block]? with
 |none=>rw [hb] at hc;cases hc
 |some o=>rw [h.block _ (bH hb),hb];rw [hb] at hc;exact hc
theorem sQ {P:Program} {w w':World} (h:BelowF (λc=>c<w.heap.size) w w') {n:String} {cs:Array Value} (hc:w.var? P n=some cs):w'.var? P n=some cs:=by
 unfold World.var? at hc ⊢
 cases hg:P.globalNamed n with
 |none=>rw [hg] at hc;cases hc
 | some g =>
   rw [hg] at hc;simp only [Option.bind_some] at hc ⊢
   cases hb:w.heap[g]? with
   |none=>rw [hb] at hc;cases hc
   |some o=>rw [h.block _ (bH hb),hb];rw [hb] at hc;exact hc
theorem sJ.stay:LSt sJ:=λ_w _w' h ⟨⟨e1,h3,h4⟩,⟨e2,h5,h6⟩⟩=>⟨⟨e1,im h h3,h4⟩,⟨e2,im h h5,h6⟩⟩
theorem LT.stay:LSt LT:=λw w' h ⟨h1,⟨m,h2⟩,h3⟩=>⟨sQ h h1,⟨m,im h h2⟩,sJ.stay w w' h h3⟩
theorem xy {xs:Array Value} (h:xs.size=1):∃ a,xs = #[a]:=by
 obtain ⟨l⟩:=xs
 match l,h with
 | [a],_=>exact ⟨a,rfl⟩
theorem AC {xs:Array Value} (h:xs.size=2):∃ a b,xs = #[a,b]:=by
 obtain ⟨l⟩:=xs
 match l,h with
 | [a,b],_=>exact ⟨a,b,rfl⟩
theorem Fo {xs:Array Value} (h:xs.size=3):∃ a b c,xs = #[a,b,c]:=by
 obtain ⟨l⟩:=xs
 match l,h with
 | [a,b,c],_=>exact ⟨a,b,c,rfl⟩
theorem mI {w:World} {v u:Value} (h:RdV w v (.c (.v u))):v=u:=by cases h;rfl
theorem kn (c:UInt8):∀ (a b:List UInt8),c ∉ a->Lib.index (a++c::b) [c]=(a.length:Int)
 | [],b,_=>by simp [Lib.index,List.isPrefixOf]
 | x :: a, b, h => by
   have hx:c≠x:=λe=>h (by simp [e])
   have ih:=kn c a b (λe=>h (by simp [e]));have hp:([c]:List UInt8).isPrefixOf (x::(a++c::b))=false:=by simp [List.isPrefixOf,hx]
   rw [List.cons_append,Lib.index,hp,ih];have hn:¬ (((a.length:Int) == -1)=true):=by rw [beq_iff_eq];omega
   simp only [Bool.false_eq_true,if_false,if_neg hn,List.length_cons];omega
theorem oK (c:UInt8) (l:List UInt8) (h:c∈l):∃ a b,l=a++c::b/\c ∉ a:=by
 induction l with
 |nil=>simp at h
 | cons x l ih =>
   by_cases hx:x=c
   ·exact ⟨[],l,by simp [hx],by simp⟩
   ·obtain ⟨a,b,h1,h2⟩:=ih (by rcases List.mem_cons.1 h with h|h;exact absurd h.symm hx;exact h)
    exact ⟨x::a,b,by simp [h1],λe=>by rcases List.mem_cons.1 e with e|e;exact hx e.symm;exact h2 e⟩
theorem pn (c:UInt8):∀ (n:Nat) (l:List UInt8),l.length<=n->Lib.splitK [c] 0 (Lib.count l [c]) l=ak c l:=by
 intro n
 induction n with
 | zero =>
   intro l hl;have:l=[]:=List.length_eq_zero_iff.1 (by omega);subst this;rw [Lib.count_one];rfl
 | succ n ih =>
   intro l hl;by_cases hc:c∈l
   ·obtain ⟨a,b,rfl,ha⟩:=oK c l hc
    have hi:=kn c a b ha;have hd:(a++c::b).drop (a.length+1)=b:=by simp
    rw [Lib.count_hit (by simp) hi,Nat.add_comm,Lib.splitK,hi];have hn:¬ (((a.length:Int) == -1)=true):=by rw [beq_iff_eq];omega
    rw [if_neg hn,eu c a b ha];simp only [Int.toNat_natCast,List.length_singleton,Nat.add_zero,hd];simp at hl;rw [ih b (by omega)];simp
   ·have h0:Lib.count l [c]=0:=by rw [Lib.count_one];exact List.count_eq_zero.2 hc
    rw [h0,fy c l hc];rfl
theorem gl (s:List UInt8) (c:UInt8):Lib.splitB (bs [c]) 0 (Lib.countB (bs s) (bs [c])) (bs s)=(ak c s).map bs:=by
 have h:=Lib.splitB_data (bs [c]) 0 (Lib.countB (bs s) (bs [c])) (bs s);have hc:Lib.countB (bs s) (bs [c])=Lib.count s [c]:=rfl;rw [bc,bc,hc,pn c s.length s (Nat.le_refl _)] at h;rw [<- h,List.map_map,hc]
 conv=>lhs;rw [<- List.map_id (Lib.splitB (bs [c]) 0 (Lib.count s [c]) (bs s))]
 exact List.map_congr_left λx _=>(jy x).symm
theorem mH (c d:UInt8):∀ (n:Nat) (l:List UInt8),l.length<=n->Lib.replaceK [c] [d] (Lib.count l [c]) l=l.map λx=>if x=c then d else x:=by
 intro n
 induction n with
 | zero =>
   intro l hl;have:l=[]:=List.length_eq_zero_iff.1 (by omega);subst this;rw [Lib.count_one];rfl
 | succ n ih =>
   intro l hl
   have hno:∀ a:List UInt8,c ∉ a->(a.map λx=>if x=c then d else x)=a:=λa ha=>by
    conv=>rhs;rw [<- List.map_id a]
    exact List.map_congr_left λx hx=>by rw [if_neg (λe=>ha (by rw [<- e];exact hx))];rfl
   by_cases hc:c∈l
   ·obtain ⟨a,b,rfl,ha⟩:=oK c l hc
    have hi:=kn c a b ha;have hd:(a++c::b).drop (a.length+1)=b:=by simp
    rw [Lib.count_hit (by simp) hi,Nat.add_comm,Lib.replaceK_hit _ _ _ _ _ hi];simp at hl;simp only [List.length_singleton,hd,ih b (by omega),List.map_append,List.map_cons,hno a ha];simp
   ·have h0:Lib.count l [c]=0:=by rw [Lib.count_one];exact List.count_eq_zero.2 hc
    rw [h0,hno l hc];rfl
theorem nT (s:List UInt8) (c d:UInt8) (h:c≠d):Lib.replaceAll s [c] [d]=s.map λx=>if x=c then d else x:=by
 unfold Lib.replaceAll Lib.replace;have hn:¬ (([c]:List UInt8) == [d])=true:=by rw [beq_iff_eq];simpa using h
 rw [if_neg hn];exact mH c d s.length s (Nat.le_refl _)
theorem z7 (n:Int) (h0:0<=n) (h1:n<=9223372036854775807):aK Tryz.prog LT 90 [.c (vi n)] (.one (.c (vs (Lib.itoa n)) 1)):=by
 refine ⟨⟨_,Tryz.func90,by kernel_rfl,by kernel_rfl⟩,λw hL xs hxs hargs=>?_⟩;obtain ⟨a,rfl⟩:=xy hxs;obtain rfl:=mI (hargs 0 _ rfl);refine (Any.strconv_Itoa lu n (by omega) h1 w hL.1).mono ?_
 rintro e w' ⟨rfl,k,os,rfl⟩
 exact ⟨_,rfl,Lib.below_grow _ _ (Nat.le_refl _) k os,rfl,rfl⟩
theorem lL (s:List UInt8) (c d:UInt8) (hcd:c≠d) (hl:s.length<=2 ^ 31):aK Tryz.prog LT 91 [.c (vs s),.c (vs [c]),.c (vs [d])] (.one (.c (vs (s.map λx=>if x=c then d else x)) 1)):=by
 refine ⟨⟨_,Tryz.func91,by kernel_rfl,by kernel_rfl⟩,λw hL xs hxs hargs=>?_⟩;obtain ⟨a,b,f,rfl⟩:=Fo hxs;obtain rfl:=mI (hargs 0 _ rfl);obtain rfl:=mI (hargs 1 _ rfl);obtain rfl:=mI (hargs 2 _ rfl);obtain ⟨m,hm⟩:=hL.2.1;have hc:=Lib.countB_le (bs [c]) (by rw [aE];simp) (bs s).size (bs s) (Nat.le_refl _);refine (Any.strings_ReplaceAll nD eL (bs s) (bs [c]) (bs [d]) m w (by rw [aE];omega) hm (by rw [aE];simp) (by rw [aE] at hc ⊢;rw [aE];simp;omega)).mono ?_
 rintro e w' ⟨rfl,hb⟩
 refine ⟨_,rfl,hb,?_,rfl⟩;simp only [bc,nT s c d hcd];rfl
theorem qt (s:List UInt8) (c:UInt8) (hl:s.length<=2 ^ 31):aK Tryz.prog LT 96 [.c (vs s),.c (vs [c])] (.one (.c (.s ((ak c s).map wR)) 1)):=by
 refine ⟨⟨_,Tryz.func96,by kernel_rfl,by kernel_rfl⟩,λw hL xs hxs hargs=>?_⟩;obtain ⟨a,b,rfl⟩:=AC hxs;obtain rfl:=mI (hargs 0 _ rfl);obtain rfl:=mI (hargs 1 _ rfl);obtain ⟨m,hm⟩:=hL.2.1;refine (Any.strings_Split nE (by kernel_rfl) (bs s) (bs [c]) m w (by rw [aE];omega) hm (by rw [aE];simp)).mono ?_
 rintro e w' ⟨rfl,rfl⟩
 rw [gl]
 have hlen:Lib.countB (bs s) (bs [c])+1=(ak c s).length:=by
  have h1:=Lib.splitB_all (bs [c]) (by rw [aE];simp) 0 _ (bs s) rfl;rw [gl] at h1
  simpa using h1.symm
 have hcl:=Lib.countB_le (bs [c]) (by rw [aE];simp) (bs s).size (bs s) (Nat.le_refl _);rw [aE] at hcl;rw [hlen];have hb:(w.alloc (.cells (((ak c s).map bs).map Value.string).toArray (Tryz.lays146_ren.t 9))).heap[w.heap.size]? = some (.cells (((ak c s).map bs).map Value.string).toArray (Tryz.lays146_ren.t 9) (0,0)):=oD w _;refine ⟨_,rfl,(Below.refl _ w).alloc (Nat.le_refl _) _,by simp,by simp [wR],.inr ⟨w.heap.size,0,(ak c s).length,_,_,λ_ _ _=>False,by simp,⟨Nat.le_refl _,bH hb⟩,hb,by simp,by unfold maxLen;omega,by simp,λ_ _ _ h=>h.elim,λ_ _ _ _ _ h=>h.elim,λi j row d hi hj=>?_⟩⟩;rw [List.getElem?_map] at hi
 cases hw:(ak c s)[i]? with
 |none=>rw [hw] at hi;cases hi
 | some x =>
   rw [hw] at hi
   cases hi
   unfold wR at hj
   match j,hj with
   | 0, hj =>
     cases hj
     have:(((ak c s).map bs).map Value.string).toArray.getD (0+(i*1+0)) undef=.string (bs x):=by simp [hw]
     rw [this];exact .plain rfl
theorem uB (l:List (List UInt8)) (c:UInt8) (hl:l.length<=2 ^ 40) (hj:(Lib.join l [c]).length<=140737488355328):aK Tryz.prog LT 119 [.c (.s (l.map wR)),.c (vs [c])] (.one (.c (vs (Lib.join l [c])) 1)):=by
 refine ⟨⟨_,Tryz.func119,by kernel_rfl,by kernel_rfl⟩,λw hL xs hxs hargs=>?_⟩;obtain ⟨a,b,rfl⟩:=AC hxs;have h0:Rd w false (λ_=>True) a (.s (l.map wR)):=hargs 0 _ rfl;obtain rfl:=mI (hargs 1 _ rfl);by_cases hn:l=[]
 ·subst hn
  obtain ⟨x,y,rfl⟩:=h0.empty_slice;refine (Any.strings_Join_none gZ cW x y (bs [c]) w).mono ?_
  rintro e w' ⟨rfl,rfl⟩
  exact ⟨_,rfl,Below.refl _ _,rfl,rfl⟩
 generalize hr:l.map wR=rows at h0
 cases h0 with
 |empty a cap h=>exact absurd (List.map_eq_nil_iff.1 hr) hn
 | slice b off cap sz cs T fr rows F hcap hmax hsz hS hb hfit hown hF hd hlen hrd =>
   subst hr
   have hsz1:sz=1:=by
    cases l with
    |nil=>exact absurd rfl hn
    |cons x l=>have:=hlen (wR x) (by simp);rw [bM] at this;exact this.symm
   subst hsz1
   have hcells:∀ (j:Nat) x,(l.map bs)[j]? = some x->w.cell? ⟨b,off+j,none⟩=some (.string x):=λj x hj=>by
    rw [List.getElem?_map] at hj
    cases hx:l[j]? with
    |none=>rw [hx] at hj;cases hj
    | some y =>
      rw [hx] at hj
      cases hj
      have h1:=hrd j 0 (wR y) (vs y) (by rw [List.getElem?_map,hx];rfl) rfl;have hjl:j<l.length:=(List.getElem?_eq_some_iff.1 hx).1;simp only [List.length_map] at hfit;have h2:off+(j*1+0)<cs.size:=by omega
      have e3:off+(j*1+0)=off+j:=by omega
      rw [e3] at h1 h2;unfold World.cell?;rw [hb];generalize hv:cs.getD (off+j) undef=v at h1
      cases h1
      rw [Array.getD_eq_getD_getElem?,Array.getElem?_eq_getElem h2] at hv;simp at hv;simp [h2,hv]
   have hd2:(l.map bs).map (·.data.toList)=l:=by
    rw [List.map_map]
    conv=>rhs;rw [<- List.map_id l]
    exact List.map_congr_left λx _=>bc x
   have:=Any.strings_Join gZ cW b off cap (l.map bs) (bs [c]) w hcells (bH hb) (by rw [List.length_map];omega) (by rw [List.length_map] at hcap ⊢;exact hcap) (by rw [hd2,bc];exact hj);rw [hd2,bc] at this;simp only [List.length_map] at this ⊢;refine this.mono ?_
   rintro e w' ⟨rfl,hB⟩
   exact ⟨_,rfl,hB,rfl,rfl⟩
set_option maxRecDepth 100000
set_option maxHeartbeats 4000000
theorem bm (n:Int):aK Tryz.prog LT 48 [.c (vi n)] (.one (.c (vs (ag n)) 1)):=by
 refine aK.intro' aq LT.stay Tryz.func48 (by kernel_rfl) rfl rfl rfl (Nat.le_of_ble_eq_true rfl) (λw0 base hE=>?_);simp;refine aa.pure (di n 0 1000000000) (by simp) ?_;by_cases h:0<=n/\n<=1000000000
 ·have e:Lib.itoa n=ag n:=by unfold Lib.itoa ag;rw [if_neg (by omega),if_pos h]
  simp [h];refine ah hE (z7 n (by omega) (by omega)) (by simp) ?_;simp [e]
 ·have e:ag n=[]:=by unfold ag;rw [if_neg h]
  simp [h,e];rfl
theorem LT.below {w w':World} (h:Below w.heap.size w w') (hL:LT w):LT w':=LT.stay w w' ⟨h.os,h.tape,h.output,h.size,h.block⟩ hL
theorem jF {s:List UInt8} (h:s≠[]):(bs s).toList.isEmpty=false:=by
 have e:(bs s).toList=s:=by rw [ByteArray.toList_eq,bc]
 rw [e]
 cases s with
 |nil=>exact absurd rfl h
 |cons x l=>rfl
theorem yG (s r:ByteArray) (v:Int) (w:World) (hs:s.toList.isEmpty=false) (hb:(r.toList == s.toList)=true)
 (A:Calls Tryz.prog 125 #[.string s] w λe w'=>e=.returned (.tuple #[.int .i64 v,.nilIface])/\Below w.heap.size w w')
 (N:∀ W,Below w.heap.size w W->Calls Tryz.prog 48 #[.int .i64 v] W λe w'=>e=.returned (.string r)/\Below w.heap.size w w') :
 Calls Tryz.prog 97 #[.string s] w λe w'=>e=.returned (.tuple #[.int .i64 v,.bool true])/\Below w.heap.size w w':=by
 go_enter Tryz.func97,Tryz.ntmps97
 go_wp2_with (go_at_call 125;refine A.mono ?_;rintro e w1 ⟨rfl,h1⟩)
 go_wp2_with (go_at_call 48;refine (N _ h1).mono ?_;rintro e w2 ⟨rfl,h2⟩)
 go_ret2
 exact ⟨rfl,h2⟩
theorem Cf (s r:ByteArray) (v:Int) (w:World) (hs:s.toList.isEmpty=false) (hb:(r.toList == s.toList)=false)
 (A:Calls Tryz.prog 125 #[.string s] w λe w'=>e=.returned (.tuple #[.int .i64 v,.nilIface])/\Below w.heap.size w w')
 (N:∀ W,Below w.heap.size w W->Calls Tryz.prog 48 #[.int .i64 v] W λe w'=>e=.returned (.string r)/\Below w.heap.size w w') :
 Calls Tryz.prog 97 #[.string s] w λe w'=>e=.returned (.tuple #[.int .i64 0,.bool false])/\Below w.heap.size w w':=by
 go_enter Tryz.func97,Tryz.ntmps97
 go_wp2_with (go_at_call 125;refine A.mono ?_;rintro e w1 ⟨rfl,h1⟩)
 go_wp2_with (go_at_call 48;refine (N _ h1).mono ?_;rintro e w2 ⟨rfl,h2⟩)
 go_ret2
 exact ⟨rfl,h2⟩
theorem sV (s:ByteArray) (v:Int) (w:World)
 (A:Calls Tryz.prog 125 #[.string s] w λe w'=>(∃ t p,e=.returned (.tuple #[.int .i64 v,.iface t p]))/\Below w.heap.size w w') :
 Calls Tryz.prog 97 #[.string s] w λe w'=>e=.returned (.tuple #[.int .i64 0,.bool false])/\Below w.heap.size w w':=by
 go_enter Tryz.func97,Tryz.ntmps97
 go_wp2_with (go_at_call 125;refine A.mono ?_;rintro e w1 ⟨⟨t,p,rfl⟩,h1⟩)
 go_ret2
 exact ⟨rfl,h1⟩
theorem fQ (s:List UInt8) (hl:s.length<=2 ^ 31):aK Tryz.prog LT 97 [.c (vs s)] (.tup [.c (vi (ai s).1) 1,.c (.v (.bool (ai s).2)) 1]):=by
 refine ⟨⟨_,Tryz.func97,by kernel_rfl,by kernel_rfl⟩,λw hL xs hxs hargs=>?_⟩;obtain ⟨a,rfl⟩:=xy hxs;obtain rfl:=mI (hargs 0 _ rfl);have hL0:=hL;obtain ⟨_,_,⟨e1,hv1,he1⟩,⟨e2,hv2,he2⟩⟩:=hL
 have hend:∀ (x:Int) (b:Bool),ai s=(x,b)->(Calls Tryz.prog 97 #[.string (bs s)] w λe w'=>e=.returned (.tuple #[.int .i64 x,.bool b])/\Below w.heap.size w w')->Calls Tryz.prog 97 #[.string (bs s)] w λe w'=>∃ v,e=.returned v/\Below w.heap.size w w'/\pa w' (λc=>w.heap.size<=c/\c<w'.heap.size) v (.tup [.c (vi (ai s).1) 1,.c (.v (.bool (ai s).2)) 1]):=λx b e hc=>by
  refine hc.mono ?_
  rintro _ w' ⟨rfl,hb⟩
  refine ⟨_,rfl,hb,_,λ_ _=>False,rfl,rfl,λ_ _ h=>h.elim,λ_ _ _ h=>h.elim,λj t hj=>?_⟩;rw [e] at hj
  match j,hj with
  |0,hj=>cases hj;exact ⟨rfl,rfl⟩
  |1,hj=>cases hj;exact ⟨rfl,rfl⟩
 have hsz:(bs s).size<=281474976710656:=by rw [aE];omega
 have hN:∀ v:Int,∀ W,Below w.heap.size w W->Calls Tryz.prog 48 #[.int .i64 v] W λe w'=>e=.returned (.string (bs (ag v)))/\Below w.heap.size w w':=λv W hb=>by
  refine ((bm v).2 W (LT.below hb hL0) #[.int .i64 v] rfl (λi vd hi=>?_)).mono ?_
  ·match i,hi with
   |0,hi=>cases hi;exact .plain rfl
  ·rintro e w' ⟨u,rfl,h1,h2⟩
   obtain ⟨rfl,-⟩:=h2;exact ⟨rfl,hb.trans (h1.mono hb.size)⟩
 cases h:Lib.atoiAll s with
 | ok v =>
   have hs:s≠[]:=λe=>by subst e;cases h
   have hn:=mv h
   have hA:Calls Tryz.prog 125 #[.string (bs s)] w λe w'=>e=.returned (.tuple #[.int .i64 v,.nilIface])/\Below w.heap.size w w':=by
    refine (Any.strconv_Atoi_ok eg (bs s) (by omega) v (by rw [bc];exact h) w).mono ?_
    rintro e w' ⟨rfl,rfl|⟨t,rfl⟩⟩
    ·exact ⟨rfl,Below.refl _ _⟩
    ·exact ⟨rfl,Lib.bytesWorld_below _ _ _⟩
   by_cases hq:ag v=s
   ·exact hend v true (hn.1 hq) (yG (bs s) (bs (ag v)) v w (jF hs) (by rw [hq,mA];simp [dc]) hA (hN v))
   ·exact hend 0 false (hn.2 hq) (Cf (bs s) (bs (ag v)) v w (jF hs) (by rw [mA,bV,bQ];exact hq) hA (hN v))
 | «syntax» =>
   refine hend 0 false (gi λv e=>by rw [h] at e;cases e) (sV (bs s) 0 w ?_);refine (Any.strconv_Atoi_syntax eg (bs s) hsz (by rw [bc];exact h) e1 w hv1 he1).mono ?_
   rintro e w' ⟨N,rfl,-,-,hb⟩
   exact ⟨⟨_,_,rfl⟩,hb⟩
 | range =>
   refine hend 0 false (gi λv e=>by rw [h] at e;cases e) (sV (bs s) (Lib.atoiSat (bs s).data.toList) w ?_);refine (Any.strconv_Atoi_range eg (bs s) hsz (by rw [bc];exact h) e2 w hv2 he2).mono ?_
   rintro e w' ⟨N,rfl,-,-,hb⟩
   exact ⟨⟨_,_,rfl⟩,hb⟩
set_option maxRecDepth 20000
set_option maxHeartbeats 6400000
attribute [local simp] cY bX aE bQ bM
theorem wS {l:List (List UInt8)} {B:Nat} (h:∀ w∈l,w.length<=B):Lib.lens l<=B*l.length:=by
 induction l with
 |nil=>simp [Lib.lens]
 | cons x l ih =>
   have h1:=h x (by simp);have h2:=ih λw hw=>h w (by simp [hw])
   have e:Lib.lens (x::l)=x.length+Lib.lens l:=by simp [Lib.lens]
   rw [e,List.length_cons,Nat.mul_succ];omega
theorem mS {l:List (List UInt8)} {B:Nat} {c:UInt8} (h:∀ w∈l,w.length<=B):(Lib.join l [c]).length<=(B+1)*l.length:=by
 cases l with
 |nil=>simp [Lib.join_nil]
 | cons x l =>
   rw [Lib.join_length];have:=wS h;rw [Nat.add_mul];simp at this ⊢;omega
theorem bD (n:Int):(ag n).length<=10:=by
 unfold ag
 split
 ·exact kt 9 _ (by omega)
 ·simp
theorem eY (l:List Int):(cm l).length<=11*l.length:=by
 have h:=mS (l:=l.map ag) (B:=10) (c:=46) (λw hw=>by obtain ⟨n,-,rfl⟩:=List.mem_map.1 hw;exact bD n)
 simpa [cm] using h
theorem m1 (l:List Int) (hl:l.length<=2 ^ 40):aK Tryz.prog LT 89 [.c (.s (l.map aU))] (.one (.c (vs (cm l)) 1)):=by
 refine aK.intro' aq LT.stay Tryz.func89 (by kernel_rfl) rfl rfl rfl (Nat.le_of_ble_eq_true rfl) (λw0 base hE=>?_);simp;refine aD hE (λx:Nat×Hd=>x.1<=l.length) (λx=>⟨20,0,[(8,.v (.int .i64 x.1)),(7,.v (.int .i64 l.length)),(6,.ro (l.map aU)),(3,.sl 5000 x.2 1 0 x.1)],[(5000,.rows x.2 1 (((l.take x.1).map ag).map wR) true)]⟩) (λx=>l.length - x.1) (0,none) (by simp) (by simp) (λx hx=>Ent.refl ?_);obtain ⟨i,H⟩:=x;simp only at hx ⊢;by_cases hlt:i<l.length
 ·simp [hlt]
  refine ah hE (bm l[i]) (by simp) ?_;simp;intro b;have e1:i=min i l.length:=by omega
  refine ⟨e1,by omega,λH2=>Ent.refl ⟨i+1,by omega,by omega,H2,?_⟩⟩;simp;exact ⟨au (by omega),fw (f:=wR ∘ ag) hlt⟩
 ·have e:i=l.length:=by omega
  subst e;simp;refine ah hE (uB (l.map ag) 46 (by simpa using hl) (by have:=eY l;unfold cm at this;omega)) (by simp) ?_;simp [cm]
theorem ig (s:List UInt8) (hl:s.length<=2 ^ 31):aK Tryz.prog LT 100 [.c (vs s)] (.tup [.c (.s ((gu (bN s)).1.map aU)) 1,.c (.v (.bool (gu (bN s)).2)) 1]):=by
 refine aK.intro' aq LT.stay Tryz.func100 (by kernel_rfl) rfl rfl rfl (Nat.le_of_ble_eq_true rfl) (λw0 base hE=>?_);simp;refine ah hE (qt s 46 hl) (by simp) ?_;simp;intro H;obtain ⟨W,hW⟩:∃ W,ak 46 s=W:=⟨_,rfl⟩;have hlen:=(aV 46 s).1;have hw:=(aV 46 s).2;have hrd:bN s=br cR W:=by unfold bN;rw [hW]
 rw [hW] at hlen hw ⊢
 refine aD hE (λx:Nat×List Int×Hd=>x.1<=W.length/\x.2.1.length=x.1/\bN s=(br cR (W.drop x.1)).map (x.2.1 ++ ·)) (λx=>⟨29,0,[(12,.v (.int .i64 x.1)),(11,.v (.int .i64 W.length)),(10,.sl 160 H 1 0 W.length),(4,.sl 5000 x.2.2 1 0 x.2.1.length),(3,.v (.bool false)),(2,.nil)],
  [(160,.rows H 1 (W.map wR) true),(5000,.rows x.2.2 1 (x.2.1.map aU) true)]⟩) (λx=>W.length - x.1) (0,[],none) ⟨by simp,by simp,by simp [hrd]⟩ (by simp) (λx hi=>Ent.refl ?_)
 obtain ⟨i,out,K⟩:=x;obtain ⟨h1,h2,h3⟩:=hi;simp only at h1 h2 h3 ⊢;by_cases hlt:i<W.length
 ·have hx:=hw W[i] (List.getElem_mem hlt)
  have hst:bN s=(cR W[i]).bind λy=>(br cR (W.drop (i+1))).map λr=>out++(y::r):=by
   rw [h3,fE hlt]
   cases cR W[i]<;>simp [Function.comp_def]
  simp [hlt,wR];refine ah hE (fQ W[i] (by omega)) (by simp) ?_;by_cases hok:(ai W[i]).2=true
  ·have hn:cR W[i]=some (ai W[i]).1:=by unfold cR;rw [if_pos hok]
   simp [hok];intro b;refine ⟨by omega,λH1=>Ent.refl ⟨i+1,out++[(ai W[i]).1],⟨by omega,by simp;omega,?_⟩,by omega,H1,?_⟩⟩
   ·rw [hst,hn];simp
   ·simp
    exact au (by omega)
  ·have hn:cR W[i]=none:=by unfold cR;rw [if_neg hok]
   have hr:bN s=none:=by rw [hst,hn];rfl
   have hok':(ai W[i]).2=false:=by simpa using hok
   simp [hok',hr,gu]
 ·have e:i=W.length:=by omega
  have hm:bN s=some out:=by rw [h3,List.drop_of_length_le (by omega)];simp [br]
  simp [hlt,hm,gu]
theorem wH {α β:Type} {f:α->Option β} {W:List α} {l:List β} (h:br f W=some l):l.length<=W.length:=Nat.le_of_eq (j9 h)
theorem pq {s:List UInt8} {l:List Int} (h:bN s=some l):l.length<=s.length+1:=Nat.le_trans (wH h) (aV 46 s).1
theorem qF {p:Part} (h:aw p):(ab p).length<=2201:=by
 have hb:=h.bounds;have h1:=bD p.n;have h2:=eY p.signs;unfold ab
 split
 ·simp;omega
 ·split<;>simp<;>omega
theorem ej (o:List Part):(ap o).length<=2500000:=by
 unfold ap
 split
 ·rename_i h
  split
  ·simp
  ·have h1:=(bI h).1
   have h2:=mS (l:=(aP o).map ab) (B:=2201) (c:=32) (λw hw=>by obtain ⟨p,hp,rfl⟩:=List.mem_map.1 hw;exact qF (h1.1.1 p hp));have h3:=h1.1.2;simp at h2;omega
 ·simp
end Go.Proofs.YthckkpphnmmfdaaGreatDoor
namespace Go.AM
open Go.RowKit
mutual
def fz (k:Nat) (H:Hd) (sz:Nat) (rs:List (List CD)):AV->AV
 | .sl k' H' sz' off len=>if k'=k then (if H'=H/\sz'=sz/\off+len<=rs.length then .ro (cut rs off len) else .any) else .sl k' H' sz' off len
 | .agg l=>.agg (fzL k H sz rs l)
 | .tup l=>.tup (fzL k H sz rs l)
 | .clo f l=>.clo f (fzL k H sz rs l)
 | .any=>.any
 | .un=>.un
 | .nil=>.nil
 | .v u=>.v u
 | .ro r=>.ro r
 | .p a b c=>.p a b c
 | .e a b c d e=>.e a b c d e
 | .rp r=>.rp r
 | .cv u n=>.cv u n
 | .ml a b c d=>.ml a b c d
 | .is u=>.is u
def fzL (k:Nat) (H:Hd) (sz:Nat) (rs:List (List CD)):List AV->List AV
 | []=>[]
 |a::l=>fz k H sz rs a::fzL k H sz rs l
end
def fzO (k:Nat) (H:Hd) (sz:Nat) (rs:List (List CD)):AObj->AObj
 | .vars b T cells=>.vars b T (fzL k H sz rs cells)
 |o=>o
def fzT (k:Nat) (H:Hd) (sz:Nat) (rs:List (List CD)) (t:List (Nat×AV)):List (Nat×AV):=t.map λp=>(p.1,fz k H sz rs p.2)
def fzH (k:Nat) (H:Hd) (sz:Nat) (rs:List (List CD)):AH->AH
 | []=>[]
 |(i,o)::h=>(i,fzO k H sz rs o)::fzH k H sz rs h
section rules
variable {k:Nat} {H:Hd} {sz:Nat} {rs:List (List CD)}
theorem xd:fzT k H sz rs []=[]:=(rfl)
theorem uP {i:Nat} {v:AV} {t:List (Nat×AV)}:fzT k H sz rs ((i,v)::t)=(i,fz k H sz rs v)::fzT k H sz rs t:=(rfl)
theorem uU {i:Nat} {o:AObj} {h:AH}:fzH k H sz rs ((i,o)::h)=(i,fzO k H sz rs o)::fzH k H sz rs h:=(rfl)
theorem xg:fzH k H sz rs []=[]:=(rfl)
theorem oH:∀ (W:bY) (i:Nat),fzH k H sz rs (cw i W)=cw i W
 | [],i=>rfl
 | q :: l, i => by
   have e:∀ xs:List Value,fzL k H sz rs (xs.map .is)=xs.map .is:=by
    intro xs
    induction xs with
    |nil=>rfl
    |cons x xs ih=>simp [fzL,fz,ih]
   simp [cw,fzH,phO,fzO,e,oH l]
theorem xf {W:bY}:fzH k H sz rs (phs W)=phs W:=oH W _
theorem uQ {b:Nat} {T:TypeId} {l:List AV}:fzO k H sz rs (.vars b T l)=.vars b T (fzL k H sz rs l):=(rfl)
theorem uR {H':Hd} {sz':Nat} {r:List (List CD)} {own:Bool}:fzO k H sz rs (.rows H' sz' r own)=.rows H' sz' r own:=(rfl)
theorem uS:fzO k H sz rs .dead=.dead:=(rfl)
theorem xe:fzL k H sz rs []=[]:=by simp [fzL]
theorem uT {a:AV} {l:List AV}:fzL k H sz rs (a::l)=fz k H sz rs a::fzL k H sz rs l:=by rw [fzL]
theorem Fh {u:Value}:fz k H sz rs (.v u)=.v u:=by rw [fz]
theorem Ak:fz k H sz rs .any=.any:=by rw [fz]
theorem CX:fz k H sz rs .un=.un:=by rw [fz]
theorem Ai:fz k H sz rs .nil=.nil:=by rw [fz]
theorem C1 {r:List (List CD)}:fz k H sz rs (.ro r)=.ro r:=by rw [fz]
theorem CZ {r:List CD}:fz k H sz rs (.rp r)=.rp r:=by rw [fz]
theorem C3 {u:Value} {n:Nat}:fz k H sz rs (.cv u n)=.cv u n:=by rw [fz]
theorem C2 {a c d:Nat} {b:Hd}:fz k H sz rs (.ml a b c d)=.ml a b c d:=by rw [fz]
theorem Fi {a b c:Nat}:fz k H sz rs (.p a b c)=.p a b c:=by rw [fz]
theorem Fj {a c d e:Nat} {b:Hd}:fz k H sz rs (.e a b c d e)=.e a b c d e:=by rw [fz]
theorem Al {l:List AV}:fz k H sz rs (.agg l)=.agg (fzL k H sz rs l):=by rw [fz]
theorem Ah {l:List AV}:fz k H sz rs (.tup l)=.tup (fzL k H sz rs l):=by rw [fz]
theorem Aj {f:Nat} {l:List AV}:fz k H sz rs (.clo f l)=.clo f (fzL k H sz rs l):=by rw [fz]
theorem CY {k' sz' off len:Nat} {H':Hd}:fz k H sz rs (.sl k' H' sz' off len)=if k'=k then (if H'=H/\sz'=sz/\off+len<=rs.length then .ro (cut rs off len) else .any) else .sl k' H' sz' off len:=by rw [fz]
end rules
attribute [simp] xd uP uU xg xf uQ uR uS xe uT Fh Ak CX Ai C1 CZ C3 C2 Fi Fj Al Ah Aj CY
open Go.RowKit
theorem aL.ent {E:Env} {body:Code} {Q:Exit->ASt->Prop} {st:ASt} (h:Ent E st (aL E body Q)):aL E body Q st:=λa w hR=>by
 obtain ⟨st',h1,h2⟩:=h a w hR;exact h1 a w h2
end Go.AM
namespace Go.Proofs.YthckkpphnmmfdaaGreatDoor
open Go.AM
set_option maxRecDepth 20000
set_option maxHeartbeats 6400000
attribute [local simp] cY bX aE bQ bM
theorem f8 {α:Type} {f:α->Nat} {a:α}:nL f [a]=f a+1:=by simp [nL,cg];omega
theorem iC {o:List Part} (h:b7 o) (h0:aP o=[]):ap o=[45]:=by unfold ap;rw [if_pos h,if_pos h0]
theorem iD {o:List Part} (h:b7 o) (h0:aP o≠[]):ap o=Lib.join ((aP o).map ab) [32]:=by unfold ap;rw [if_pos h,if_neg h0]
theorem gK (o:List Part) (hl:nL az o<=2 ^ 40):aK Tryz.prog LT 92 [.c (.s (o.map Part.row))] (.one (.c (vs (ap o)) 1)):=by
 refine aK.intro' aq LT.stay Tryz.func92 (by kernel_rfl) rfl rfl rfl (Nat.le_of_ble_eq_true rfl) (λw0 base hE=>?_);simp;refine aa.pure (eC o hl) (by simp) ?_;by_cases h:b7 o
 rotate_left
 ·have e:ap o=[]:=by unfold ap;rw [if_neg h]
  simp [h,e]
 simp [h];refine aa.pure (gL o hl) (by simp) ?_;obtain ⟨h1,h2⟩:=bI h;have hz:=iC h;have hs:=iD h;have hle:=ej o;generalize ap o=T at hz hs hle ⊢;have hsh:=gv (bI h);generalize aP o=q at h1 hz hs hsh ⊢;have hlen:=h1.1.2;simp;intro H;refine aL.ent (kU 10 160 (by simp;exact ⟨rfl,rfl,rfl,rfl⟩) (by simp;exact ⟨rfl,rfl⟩) (by simp) (Ent.refl ?_));simp
 refine aD hE (λx:Nat×Hd=>x.1<=q.length) (λx=>⟨49,0,[(12,.v (.int .i64 x.1)),(11,.v (.int .i64 q.length)),(10,.ro (q.map Part.row)),(3,.sl 5000 x.2 1 0 x.1)],
  [(5000,.rows x.2 1 (((q.take x.1).map ab).map wR) true)]⟩) (λx=>q.length - x.1) (0,none) (by simp) (by simp) (λx hx=>Ent.refl ?_)
 obtain ⟨i,K⟩:=x;simp only at hx ⊢;by_cases hlt:i<q.length
 rotate_left
 ·have e:i=q.length:=by omega
  subst e;by_cases h0:q=[]
  ·subst h0
   simp [hz rfl]
  ·simp [h0]
   refine ah hE (uB (q.map ab) 32 (by simp;omega) (by rw [<- hs h0];omega)) (by simp) ?_;simp [hs h0]
 have hpt:=hsh q[i] (List.getElem_mem hlt);have hok:=h1.1.1 q[i] (List.getElem_mem hlt);obtain ⟨⟨k,n,s⟩,hp⟩:∃ p,q[i]=p:=⟨_,rfl⟩;have hps:ab q[i]=ab ⟨k,n,s⟩:=by rw [hp]
 rw [hp] at hpt hok;have hb:=hok.bounds;simp only at hb;simp [hlt,hp,Part.row];intro b5;have e1:i=min i q.length:=by omega
 have h10:=bD n;by_cases k1:k=1
 ·have hT:ab q[i]=107::ag n:=by rw [hps,k1];simp [ab]
  simp [k1];refine ah hE (bm n) (by simp) ?_;simp;refine ⟨by omega,λb=>⟨e1,by omega,λH2=>Ent.refl ⟨i+1,by omega,by omega,H2,?_⟩⟩⟩;simp;exact ⟨au (by omega),by rw [<- hT];exact fw (f:=wR ∘ ab) hlt⟩
 by_cases k3:k=3
 ·have hT:ab q[i]=100::ag n:=by rw [hps,k3];simp [ab]
  simp [k3];refine ah hE (bm n) (by simp) ?_;simp;refine ⟨by omega,λb=>⟨e1,by omega,λH2=>Ent.refl ⟨i+1,by omega,by omega,H2,?_⟩⟩⟩;simp;exact ⟨au (by omega),by rw [<- hT];exact fw (f:=wR ∘ ab) hlt⟩
 have k2:k=2:=by omega
 have hT:ab q[i]=112::cm s:=by rw [hps,k2];simp [ab]
 have hsl:=eY s;simp [k2];refine ah hE (m1 s (by omega)) (by simp) ?_;simp;refine ⟨by omega,λb=>⟨e1,by omega,λH2=>Ent.refl ⟨i+1,by omega,by omega,H2,?_⟩⟩⟩;simp;exact ⟨au (by omega),by rw [<- hT];exact fw (f:=wR ∘ ab) hlt⟩
theorem l8 (s:List UInt8) (hl:s.length<=2 ^ 31):aK Tryz.prog LT 58 [.c (vs s)] (.one (.c (.s ((ak 32 s).map wR)) 1)):=by
 refine aK.intro' aq LT.stay Tryz.func58 (by kernel_rfl) rfl rfl rfl (Nat.le_of_ble_eq_true rfl) (λw0 base hE=>?_);simp;refine ah hE (qt s 32 hl) (by simp) ?_;simp
def cE (s:List UInt8):List UInt8:=s.map λx=>if x=32 then 44 else x
def dn (s:List UInt8):List UInt8:=s.map λx=>if x=44 then 32 else x
theorem mY (o:List Part) (hl:nL az o<=2 ^ 40):aK Tryz.prog LT 49 [.c (.s (o.map Part.row))] (.one (.c (vs (cE (ap o))) 1)):=by
 refine aK.intro' aq LT.stay Tryz.func49 (by kernel_rfl) rfl rfl rfl (Nat.le_of_ble_eq_true rfl) (λw0 base hE=>?_);have hle:=ej o;simp;refine ah hE (gK o hl) (by simp) ?_;simp;refine ah hE (lL (ap o) 32 44 (by decide) (by omega)) (by simp) ?_;simp [cE]
theorem mV (s:List UInt8) (hl:s.length<=2 ^ 30):aK Tryz.prog LT 98 [.c (vs s)] (.tup [.c (.s ((aO s).1.map Part.row)) 3,.c (.v (.bool (aO s).2)) 1]):=by
 refine aK.intro' aq LT.stay Tryz.func98 (by kernel_rfl) rfl rfl rfl (Nat.le_of_ble_eq_true rfl) (λw0 base hE=>?_);by_cases hs:s=[45]
 ·subst hs
  simp [jK]
 simp [hs];refine ah hE (l8 s (by omega)) (by simp) ?_;simp;intro H;have hI:=λout=>tF (out:=out) hs
 have hN:=it (f:=cl) (λp h hn=>jD h hn) hs;have hlen:=(aV 32 s).1;have hw:=(aV 32 s).2;have hsum:=ga 32 s;generalize ak 32 s=W at hlen hw hsum hI hN ⊢
 refine aD hE (λx:Nat×List Part×Hd=>x.1<=W.length/\x.2.1.length=x.1/\nL az x.2.1+mQ (W.drop x.1)<=s.length+1/\br cl W=(br cl (W.drop x.1)).map (x.2.1 ++ ·)) (λx=>⟨65,0,[(14,.v (.int .i64 x.1)),(13,.v (.int .i64 W.length)),(12,.sl 192 H 1 0 W.length),(4,.sl 5000 x.2.2 3 0 x.2.1.length),(3,.v (.bool false)),(2,.nil),(0,.v (.string (bs s)))],
  [(192,.rows H 1 (W.map wR) true),(5000,.rows x.2.2 3 (x.2.1.map Part.row) true)]⟩) (λx=>W.length - x.1) (0,[],none) ⟨by simp,by simp,Nat.le_of_eq (by rw [List.drop_zero,hsum];exact Nat.zero_add _),by simp⟩ (by simp) (λx hi=>Ent.refl ?_)
 obtain ⟨i,out,K⟩:=x;obtain ⟨h1,h2,h3,h4⟩:=hi;simp only at h1 h2 h3 h4 ⊢;by_cases hlt:i<W.length
 rotate_left
 ·have e:i=W.length:=by omega
  have hm:br cl W=some out:=by rw [h4,List.drop_of_length_le (by omega)];simp [br]
  obtain ⟨y1,y2⟩:=hI out hm;simp [hlt];refine aa.pure (eC out (by omega)) (by simp) ?_;by_cases ho:b7 out
  rotate_left
  ·simp [ho,y2 (λh=>ho h.1)]
  simp [ho];refine ah hE (gK out (by omega)) (by simp) ?_;by_cases ht:ap out=s
  rotate_left
  ·simp [ht,y2 (λh=>ht h.2)]
  simp [ht,y1 ⟨ho,ht⟩];refine aa.pure (gL out (by omega)) (by simp) ?_;simp
 have hst:br cl W=(cl W[i]).bind λy=>(br cl (W.drop (i+1))).map λr=>out++(y::r):=by
  rw [h4,fE hlt]
  cases cl W[i]<;>simp [Function.comp_def]
 have hx:=hw W[i] (List.getElem_mem hlt);have hld:=l0 hlt;obtain ⟨w,hwi⟩:∃ w,W[i]=w:=⟨_,rfl⟩;rw [hwi] at hst hx hld;simp [hlt,wR,hwi]
 cases w with
 | nil =>
   have hr:br cl W=none:=by rw [hst];rfl
   simp [hN hr]
 | cons c y =>
   have hext:(bs (c::y)).extract 1 (y.length+1)=bs y:=by rw [kE];simp
   have hget:∀ h,(bs (c::y))[0]'h=c:=λh=>by rw [nq];rfl
   simp only [List.length_cons] at hx hld;simp [hext];refine ah hE (ig y (by omega)) (by simp) ?_
   cases hrd:bN y with
   | none =>
     have hr:br cl W=none:=by rw [hst];simp [cl,hrd]
     simp [gu,hN hr]
   | some l =>
     have hl0:=nU hrd;have hl1:=pq hrd;simp [gu];intro H1;by_cases k1:c=107
     ·have k1':(c.toNat:Int)=107:=by rw [k1];rfl
      have hwd:cl (c::y)=some ⟨1,l[0],[]⟩:=by simp [cl,hrd,k1,hl0]
      simp [hget,k1',hl0];intro b;refine ⟨by omega,λH2=>Ent.refl ⟨i+1,out++[⟨1,l[0],[]⟩],⟨by omega,by simp;omega,?_,?_⟩,by omega,H2,?_⟩⟩
      ·rw [da,f8]
       simp only [az,List.length_nil];omega
      ·rw [hst,hwd];simp
      ·simp [Part.row]
       exact au (by omega)
     have k1':¬ (c.toNat:Int)=107:=λh=>k1 (UInt8.toNat_inj.1 (by simpa using Int.ofNat.inj h))
     by_cases k2:c=100
     ·have k2':(c.toNat:Int)=100:=by rw [k2];rfl
      have hwd:cl (c::y)=some ⟨3,l[0],[]⟩:=by simp [cl,hrd,k2,hl0]
      simp [hget,k2',hl0];intro b;refine ⟨by omega,λH2=>Ent.refl ⟨i+1,out++[⟨3,l[0],[]⟩],⟨by omega,by simp;omega,?_,?_⟩,by omega,H2,?_⟩⟩
      ·rw [da,f8]
       simp only [az,List.length_nil];omega
      ·rw [hst,hwd];simp
      ·simp [Part.row]
       exact au (by omega)
     have k2':¬ (c.toNat:Int)=100:=λh=>k2 (UInt8.toNat_inj.1 (by simpa using Int.ofNat.inj h))
     have hwd:cl (c::y)=some ⟨2,0,l⟩:=by simp [cl,hrd,k1,k2]
     simp [hget,k1',k2'];intro b;refine ⟨by omega,λH2=>Ent.refl ⟨i+1,out++[⟨2,0,l⟩],⟨by omega,by simp;omega,?_,?_⟩,by omega,H2,?_⟩⟩
     ·rw [da,f8]
      simp only [az];omega
     ·rw [hst,hwd];simp
     ·simp [Part.row]
      exact au (by omega)
end Go.Proofs.YthckkpphnmmfdaaGreatDoor
