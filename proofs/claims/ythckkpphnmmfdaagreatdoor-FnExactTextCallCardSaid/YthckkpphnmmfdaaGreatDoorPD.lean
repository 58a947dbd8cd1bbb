import Derived.Test.YthckkpphnmmfdaaGreatDoorPB
import Derived.Test.YthckkpphnmmfdaaGreatDoorPC
import Derived.Lib.AtoiAllCases
import Derived.Lib.AppendIntMem
import Derived.WalkKit
import Derived.BigCall
import Derived.Test.YthckkpphnmmfdaaGreatDoorMF
namespace Go.Proofs.YthckkpphnmmfdaaGreatDoor
open Go.AM
set_option maxRecDepth 20000
def chn (L:List Part):Prop:=∀ i,∀ h:i+1<L.length,L[i].kind≠L[i+1].kind
theorem r9:chn []:=λi h=>by simp at h
theorem wn {p:Part} {L:List Part} (h:chn (p::L)):chn L/\∀ h0:0<L.length,p.kind≠L[0].kind:=by
 refine ⟨λi hi=>?_,λh0=>?_⟩
 ·have:=h (i+1) (by simp;omega)
  simpa using this
 ·have:=h 0 (by simp;omega)
  simpa using this
theorem fU {L:List Part} {p:Part} (h:chn L) (hp:∀ h:0<L.length,(L[L.length - 1]'(by omega)).kind≠p.kind):chn (L++[p]):=by
 intro i hi;simp at hi;by_cases c:i+1<L.length
 ·rw [List.getElem_append_left (by omega),List.getElem_append_left c];exact h i c
 ·have h0:0<L.length:=by omega
  have:=hp h0;rw [List.getElem_append_left (by omega),List.getElem_append_right (by omega)];have e:i=L.length - 1:=by omega
  subst e
  simpa using this
theorem yr {L:List Part} {i:Nat} {p:Part} (h:chn L) (hi:i<L.length) (hk:p.kind=L[i].kind):chn (L.set i p):=by
 intro j hj;simp at hj;have h1:=h j hj;rw [List.getElem_set,List.getElem_set]
 split
 ·rename_i e;subst e
  rw [if_neg (by omega),hk];exact h1
 ·split
  ·rename_i e;subst e;rw [hk];exact h1
  ·exact h1
def vA (L:List Part):Prop:=∀ h:0<L.length,(L[L.length - 1]'(by omega)).kind=1
theorem kG {L:List Part} {p:Part}:(((L++[p])[(L++[p]).length - 1]'(by simp))).kind=p.kind:=by simp
theorem mM {L:List Part} {P:List Int} {D:Int} (h:chn L) (hl:vA L):chn (aG L P D):=by
 unfold aG
 split
 ·split
  ·rw [List.nil_append]
   exact fU h λh0=>by rw [hl h0];simp
  ·simpa using h
 ·have h1:chn (L++[⟨2,0,P⟩]):=fU h λh0=>by rw [hl h0];simp
  split
  ·rw [<- List.append_assoc]
   exact fU h1 λh0=>by rw [kG];simp
  ·simpa using h1
theorem vD {L:List Part} {n:Int} (h:chn L):chn (bz L n)/\vA (bz L n):=by
 unfold bz
 split
 ·rename_i h0
  split
  ·rename_i hk
   refine ⟨yr h (by omega) hk.symm,λh1=>?_⟩;simp
  ·rename_i hk
   refine ⟨fU h λ_=>hk,λh1=>?_⟩;rw [kG]
 ·exact ⟨fU (L:=[]) r9 (λh=>by simp at h),λ_=>rfl⟩
theorem mB (o:List Part):∀ (i:Nat),i<=o.length->chn (aT (o.take i)).1/\vA (aT (o.take i)).1
 | 0, _ => by
   simp only [aT,List.take_zero,List.foldl_nil];exact ⟨r9,λh=>by simp at h⟩
 | i + 1, hi => by
   obtain ⟨h1,h2⟩:=mB o i (by omega);rw [cX (show i<o.length by omega)];generalize aT (o.take i)=s at h1 h2;unfold co
   split
   ·exact ⟨h1,h2⟩
   ·split
    ·exact ⟨h1,h2⟩
    ·split
     ·exact vD (mM h1 h2)
     ·exact ⟨h1,h2⟩
theorem qw (o:List Part):chn (normal o):=by
 obtain ⟨h1,h2⟩:=mB o o.length (Nat.le_refl _);rw [List.take_length] at h1 h2;exact mM h1 h2
def lS:At->List Part->List Part
 | .k,[]=>[⟨1,1,[]⟩]
 | .k,p::l=>if p.kind=1 then ⟨1,p.n+1,[]⟩::l else ⟨1,1,[]⟩::p::l
 | .d,[]=>[⟨3,1,[]⟩]
 | .d,p::l=>if p.kind=3 then ⟨3,p.n+1,[]⟩::l else ⟨3,1,[]⟩::p::l
 | .p c,[]=>[⟨2,0,[c]⟩]
 | .p c,p::l=>if p.kind=2 then ⟨2,0,c::p.signs⟩::l else ⟨2,0,[c]⟩::p::l
def grp (l:List At):List Part:=l.foldr lS []
theorem vR {L:List Part} (h:∀ h0:0<L.length,L[0].kind≠1):∀ n:Nat,(List.replicate (n+1) At.k).foldr lS L=⟨1,(n:Int)+1,[]⟩::L
 | 0 => by
   cases L with
   |nil=>rfl
   |cons p l=>have:=h (by simp);simp at this;simp [lS,this]
 | n + 1 => by
   rw [List.replicate_succ,List.foldr_cons,vR h n];simp [lS]
theorem vS {L:List Part} (h:∀ h0:0<L.length,L[0].kind≠3):∀ n:Nat,(List.replicate (n+1) At.d).foldr lS L=⟨3,(n:Int)+1,[]⟩::L
 | 0 => by
   cases L with
   |nil=>rfl
   |cons p l=>have:=h (by simp);simp at this;simp [lS,this]
 | n + 1 => by
   rw [List.replicate_succ,List.foldr_cons,vS h n];simp [lS]
theorem vQ {L:List Part} (h:∀ h0:0<L.length,L[0].kind≠2):∀ (Q:List Int) (c:Int),((c::Q).map At.p).foldr lS L=⟨2,0,c::Q⟩::L
 | [], c => by
   cases L with
   |nil=>rfl
   |cons p l=>have:=h (by simp);simp at this;simp [lS,this]
 | d :: Q, c => by
   rw [List.map_cons,List.foldr_cons,vQ h Q d];simp [lS]
theorem mK:∀ {L:List Part},(∀ q∈L,Shp q)->chn L->grp (bm L)=L
 | [],_,_=>rfl
 | p :: L, hs, hc => by
   obtain ⟨h1,h2⟩:=wn hc;have ih:=mK (λq hq=>hs q (List.mem_cons_of_mem _ hq)) h1;have hp:=hs p (List.mem_cons_self ..);unfold grp at ih ⊢;rw [bm,List.foldr_append,ih];have hpos:=hp.pos;have hn:=hp.n;unfold ats;obtain ⟨kd,n,sg⟩:=p;by_cases k2:kd=2
   ·subst k2
    obtain ⟨e1,-⟩:=hp.put rfl;simp only at e1;subst e1;simp only [if_true]
    cases sg with
    |nil=>simp [psz] at hpos
    |cons c Q=>exact vQ (λh0=>by have:=h2 h0;simpa using this.symm) Q c
   ·have e1:=hp.run k2
    simp only at e1 hn;subst e1;have hz:psz ⟨kd,n,[]⟩=n.toNat:=by simp [psz]
    rw [hz] at hpos;obtain ⟨m,hm⟩:∃ m,n.toNat=m+1:=⟨n.toNat - 1,by omega⟩;have hnm:n=(m:Int)+1:=by omega
    rw [hz,hm,if_neg k2];by_cases k3:kd=3
    ·subst k3
     simp only [if_true];rw [vS (λh0=>by have:=h2 h0;simpa using this.symm),hnm]
    ·have k1:kd=1:=by rcases hp.k with h|h|h<;>simp only at h<;>omega
     subst k1;rw [if_neg (by simp),vR (λh0=>by have:=h2 h0;simpa using this.symm),hnm]
theorem rQ:∀ (l:List At) (P:List Int) (n:Nat),nA [] 0 (nA P n l)=nA P n l
 | [], P, n => by
   have h2:=rS n P 0 [];rw [List.append_nil,Nat.zero_add] at h2;rw [nA,rP,List.nil_append,h2,nA]
 | .k :: l, P, n => by
   rw [nA,rP,rS,List.nil_append,Nat.zero_add,nA,rQ l]
 | .p c::l,P,n=>by rw [nA,rQ l]
 | .d::l,P,n=>by rw [nA,rQ l]
theorem ko {o:List Part} (h:∀ p∈o,aH p):normal o=grp (gV (bm o)):=by
 rw [<- f7 h,mK (gu h) (qw o)]
theorem lN {o:List Part} (h:cr o):normal (normal o)=normal o:=by
 have h2:=(mw h).1;rw [ko h2.1.1,f7 h.1.1,ko h.1.1];unfold gV;rw [rQ]
theorem lQ {o:List Part} (h:cr o):ba (normal o):=by
 have h2:=(mw h).1;refine ⟨h2,?_⟩;unfold bg;rw [if_pos h2,lN h]
theorem bZ {o:List Part} (h:cr o):ba (bg o):=by
 have e:bg o=normal o:=by unfold bg;rw [if_pos h]
 rw [e];exact lQ h
def cm (x:UInt8):Prop:=48<=x.toNat/\x.toNat<=57
def dM (a:Nat) (l:List UInt8):Nat:=l.foldl (λa x=>a*10+(x.toNat - 48)) a
def ew (l:List UInt8):Nat:=dM 0 l
theorem mO (l:List UInt8) (x:UInt8):ew (l++[x])=ew l*10+(x.toNat - 48):=by simp [ew,dM]
theorem jQ {m:Nat} (h:m<10):(UInt8.ofNat (48+m)).toNat=48+m:=by simp;omega
theorem nW:∀ m:Nat,∀ x∈Lib.decDigits m,cm x:=by
 intro m
 induction m using Nat.strongRecOn with
 | ind m ih =>
   intro x hx;by_cases h:m<10
   ·rw [fh h] at hx
    rw [List.mem_singleton.1 hx];unfold cm;rw [jQ h];omega
   ·rw [eI h] at hx
    rcases List.mem_append.1 hx with hx|hx
    ·exact ih (m / 10) (by omega) x hx
    ·rw [List.mem_singleton.1 hx]
     have h2:m % 10<10:=Nat.mod_lt _ (by omega);unfold cm;rw [jQ h2];omega
theorem ii:∀ m:Nat,ew (Lib.decDigits m)=m:=by
 intro m
 induction m using Nat.strongRecOn with
 | ind m ih =>
   by_cases h:m<10
   ·rw [fh h]
    show 0*10+((UInt8.ofNat (48+m)).toNat - 48)=m
    rw [jQ h];omega
   ·rw [eI h,mO,ih (m / 10) (by omega),jQ (Nat.mod_lt _ (by omega))]
    omega
theorem kV:∀ (k m:Nat),m<10 ^ (k+1)->(Lib.decDigits m).length<=k+1:=by
 intro k
 induction k with
 |zero=>intro m h;rw [fh (by omega)];simp
 | succ k ih =>
   intro m h;by_cases h9:m<10
   ·rw [fh h9];simp
   ·rw [eI h9]
    have:=ih (m / 10) (by rw [Nat.pow_succ] at h;omega);simp;omega
theorem nV (m:Nat):Lib.decDigits m≠[]:=by
 by_cases h:m<10
 ·rw [fh h];simp
 ·rw [eI h];simp
theorem dG {n:Int} (h:0<=n/\n<=1000000000):an n=Lib.decDigits n.toNat:=by unfold an;rw [if_pos h]
theorem ja (n:Int):∀ x∈an n,cm x:=by
 unfold an
 split
 ·exact nW _
 ·simp
theorem d3 (n:Int) {c:UInt8} (hc:¬ cm c):c ∉ an n:=λh=>hc (ja n c h)
open Classical in
noncomputable def aj (l:List UInt8):Int×Bool:=if ∃ m:Nat,m<=1000000000/\Lib.decDigits m=l then ((ew l:Int),true) else (0,false)
theorem bw {n:Int} (h:0<=n/\n<=1000000000):aj (an n)=(n,true):=by
 rw [dG h];unfold aj;rw [if_pos ⟨n.toNat,by omega,rfl⟩,ii]
 congr 1
 omega
theorem ou {l:List UInt8} (h:(aj l).2=true):(0<=(aj l).1/\(aj l).1<=1000000000)/\an (aj l).1=l:=by
 unfold aj at h ⊢;by_cases hm:∃ m:Nat,m<=1000000000/\Lib.decDigits m=l
 ·rw [if_pos hm]
  obtain ⟨m,h1,rfl⟩:=hm;rw [ii];refine ⟨by omega,?_⟩;rw [dG (by omega),Int.toNat_natCast]
 ·rw [if_neg hm] at h
  cases h
theorem dW {l:List UInt8} (h:∀ m:Nat,m<=1000000000->Lib.decDigits m≠l):aj l=(0,false):=by
 unfold aj;rw [if_neg]
 rintro ⟨m,h1,h2⟩
 exact h m h1 h2
theorem ov {l:List UInt8} {x:UInt8} (hx:x∈l) (hd:¬ cm x):aj l=(0,false):=dW λm _ e=>hd (nW m x (by rw [e];exact hx))
theorem iT {l:List UInt8} (h:l.length=0\/10<l.length):aj l=(0,false):=dW λm hm e=>by
 subst e;rcases h with h|h
 ·exact nV m (List.length_eq_zero_iff.1 h)
 ·have:=kV 9 m (by omega);omega
theorem j5 {l:List UInt8} {v:Int} (h:an v=l) (hl:l≠[]):aj l=(v,true):=by
 by_cases hv:0<=v/\v<=1000000000
 ·rw [<- h,bw hv]
 ·unfold an at h;rw [if_neg hv] at h;exact absurd h.symm hl
theorem lH {l:List UInt8} (hl:l≠[]):(an (ew l)=l->aj l=((ew l:Int),true))/\(¬ an (ew l)=l->aj l=(0,false)):=
 ⟨λh=>j5 h hl,λh=>dW λm hm e=>h (by subst e;rw [ii,dG (by omega),Int.toNat_natCast])⟩
theorem mt:∀ (l:List UInt8) (a:Nat),(∀ x∈l,cm x)->dM a l<=100000000000->Lib.parseUint10 a l=.ok (dM a l)
 | [],a,_,_=>by simp [Lib.parseUint10,dM]
 | x :: l, a, h, hb => by
   have hx:48<=x.toNat/\x.toNat<=57:=h x (by simp);have e:dM a (x::l)=dM (a*10+(x.toNat - 48)) l:=by simp [dM]
   rw [e] at hb ⊢
   have hge:∀ (l:List UInt8) (a:Nat),a<=dM a l:=by
    intro l
    induction l with
    |nil=>intro a;simp [dM]
    |cons y l ih=>intro a;have:=ih (a*10+(y.toNat - 48));simp only [dM,List.foldl_cons] at this ⊢;omega
   have:=hge l (a*10+(x.toNat - 48));unfold Lib.parseUint10;rw [if_pos hx,if_neg (by omega),if_neg (by omega)];exact mt l _ (λy hy=>h y (by simp [hy])) hb
theorem pN {m:Nat} (h:m<=1000000000):Lib.atoiAll (Lib.decDigits m)=.ok (m:Int):=by
 have hd:=nW m
 have hp:Lib.parseMag (Lib.decDigits m)=.ok m:=by
  unfold Lib.parseMag;rw [if_neg (nV m)];have e:=ii m;unfold ew at e;rw [mt _ 0 hd (by rw [e];omega),e]
 cases hl:Lib.decDigits m with
 |nil=>exact absurd hl (nV m)
 | cons c r =>
   rw [hl] at hp hd;have hc:=hd c (by simp);unfold cm at hc;rw [Lib.atoiAll_plain c r (by omega) (by omega),hp];unfold Lib.signless;simp;omega
theorem m5 {l:List UInt8} {v:Int} (h:Lib.atoiAll l=.ok v):(an v=l->aj l=(v,true))/\(¬ an v=l->aj l=(0,false)):=by
 refine ⟨λe=>j5 e (λe=>by subst e;cases h),λe=>dW λm hm h2=>?_⟩;subst h2;rw [pN hm] at h
 cases h
 exact e (by rw [dG (by omega),Int.toNat_natCast])
theorem gJ {l:List UInt8} (h:∀ v,Lib.atoiAll l≠.ok v):aj l=(0,false):=dW λm hm e=>h m (by rw [<- e,pN hm])
def bd {α β:Type} (f:α->Option β):List α->Option (List β)
 | []=>some []
 | x :: l => match f x with
   |none=>none
   |some y=>(bd f l).map (y :: ·)
theorem f8 {α β:Type} {f:α->Option β} {W:List α} {i:Nat} (h:i<W.length):bd f (W.drop i)=(f W[i]).bind λy=>(bd f (W.drop (i+1))).map (y :: ·):=by
 rw [List.drop_eq_getElem_cons h,bd]
 cases f W[i]<;>rfl
theorem eG {α β:Type} {f:α->Option β}:∀ {W:List α} {l:List β},bd f W=some l->W.length=l.length/\∀ i,∀ h:i<W.length,∀ h':i<l.length,f W[i]=some l[i]
 | [],l,h=>by simp [bd] at h;subst h;simp
 | x :: W, l, h => by
   unfold bd at h
   cases hx:f x with
   |none=>rw [hx] at h;cases h
   | some y =>
     rw [hx] at h
     cases hW:bd f W with
     |none=>rw [hW] at h;cases h
     | some r =>
       rw [hW] at h
       cases h
       obtain ⟨h1,h2⟩:=eG hW;refine ⟨by simp [h1],λi hi hi'=>?_⟩
       cases i with
       |zero=>simpa using hx
       |succ i=>simpa using h2 i (by simpa using hi) (by simpa using hi')
theorem fM {α β:Type} {f:α->Option β} {g:β->α}:∀ {l:List β},(∀ y∈l,f (g y)=some y)->bd f (l.map g)=some l
 | [],_=>rfl
 | y :: l, h => by
   rw [List.map_cons,bd,h y (by simp),fM (λz hz=>h z (by simp [hz]))];rfl
def cz (l:List Int):List UInt8:=Lib.join (l.map an) [46]
open Classical in
noncomputable def aU (l:List Int):List UInt8:=if a8 l then (if l=[] then [45] else cz l) else []
open Classical in
noncomputable def cd (x:List UInt8):Option Int:=if (aj x).2=true then some (aj x).1 else none
open Classical in
noncomputable def bV (x:List UInt8):Option Int:=if (aj x).2=true/\cT (aj x).1 then some (aj x).1 else none
noncomputable def bC (s:List UInt8):Option (List Int):=bd cd (al 46 s)
noncomputable def aR (s:List UInt8):Option (List Int):=if s=[45] then some [] else bd bV (al 46 s)
def eV {α:Type}:Option (List α)->List α×Bool
 |some l=>(l,true)
 |none=>([],false)
noncomputable def aI (s:List UInt8):List Int×Bool:=eV (aR s)
theorem F6 (n:Int):(46:UInt8) ∉ an n:=d3 n (by unfold cm;decide)
theorem F7 (n:Int):(32:UInt8) ∉ an n:=d3 n (by unfold cm;decide)
theorem dC {l:List Int} (h:l≠[]):al 46 (cz l)=l.map an:=ec 46 _ (by simpa using h) (λw hw=>by
 obtain ⟨n,-,rfl⟩:=List.mem_map.1 hw;exact F6 n)
theorem eU {n:Int} (h:cT n):0<=n/\n<=1000000000:=by unfold cT at h;omega
theorem gR {l:List Int} (h:∀ n∈l,0<=n/\n<=1000000000) (hl:l≠[]):bC (cz l)=some l:=by
 unfold bC;rw [dC hl,fM λn hn=>by unfold cd;rw [bw (h n hn)];simp]
theorem oF {l:List Int} (hl:l≠[]):cz l≠[45]:=λe=>by
 have h:=dC hl;rw [e] at h
 cases l with
 |nil=>exact hl rfl
 | cons n l =>
   have h1:al 46 [45]=[[45]]:=by decide
   rw [h1] at h;simp at h;have:=ja n 45 (by rw [<- h.1];simp);unfold cm at this;exact absurd this (by decide)
theorem gi {l:List Int} (h:a8 l):aI (aU l)=(l,true):=by
 unfold aI aU aR;rw [if_pos h];by_cases hl:l=[]
 ·rw [if_pos hl,if_pos rfl,hl]
  rfl
 ·rw [if_neg hl,if_neg (oF hl),dC hl,fM λn hn=>by
   unfold bV;rw [bw (eU (h n hn)),if_pos ⟨rfl,h n hn⟩]]
  rfl
theorem vv {W:List (List UInt8)} {l:List Int} {f:List UInt8->Option Int} (hf:∀ x y,f x=some y->(aj x).2=true/\y=(aj x).1) (h:bd f W=some l):l.map an=W:=by
 obtain ⟨h1,h2⟩:=eG h
 apply List.ext_getElem
 ·simp [h1]
 ·intro i hi hi'
  have:=hf _ _ (h2 i hi' (by simpa using hi));simp only [List.getElem_map];rw [this.2];exact (ou this.1).2
theorem fE {x:List UInt8} {y:Int} (h:bV x=some y):(aj x).2=true/\y=(aj x).1/\cT y:=by
 unfold bV at h
 split at h
 ·rename_i hc;have e:=Option.some.inj h;rw [<- e];exact ⟨hc.1,rfl,hc.2⟩
 ·exact absurd h (by simp)
theorem j0 {s:List UInt8} {l:List Int} (h:aR s=some l):a8 l/\aU l=s:=by
 unfold aR at h;by_cases hs:s=[45]
 ·rw [if_pos hs] at h
  cases h
  have h0:a8 []:=λn hn=>absurd hn List.not_mem_nil
  refine ⟨h0,?_⟩;unfold aU;rw [if_pos h0,if_pos rfl,hs]
 ·rw [if_neg hs] at h
  have hW:=vv (λx y hxy=>⟨(fE hxy).1,(fE hxy).2.1⟩) h
  have hok:a8 l:=λn hn=>by
   obtain ⟨h1,h2⟩:=eG h;obtain ⟨i,hi,rfl⟩:=List.getElem_of_mem hn;exact (fE (h2 i (by omega) hi)).2.2
  have hl:l≠[]:=λe=>dS 46 s (by rw [<- hW,e];rfl)
  refine ⟨hok,?_⟩;unfold aU;rw [if_pos hok,if_neg hl];unfold cz;rw [hW,kJ]
def ah (p:Part):List UInt8:=if p.kind=1 then 107::an p.n else if p.kind=2 then 112::cz p.signs else 100::an p.n
open Classical in
noncomputable def aE (o:List Part):List UInt8:=if cr o then (if bg o=[] then [45] else Lib.join ((bg o).map ah) [32]) else []
noncomputable def cb (x:List UInt8):Option Part:=match x with
 | []=>none
 |c::y=>if y=[] then none else if c=112 then (aR y).map (λl=>⟨2,0,l⟩) else (cd y).map λn=>⟨if c=107 then 1 else if c=100 then 3 else 0,n,[]⟩
noncomputable def cH (x:List UInt8):Option Part:=match x with
 | []=>none
 |c::y=>(bC y).map λl=>if c=107 then ⟨1,l.getD 0 0,[]⟩ else if c=100 then ⟨3,l.getD 0 0,[]⟩ else ⟨2,0,l⟩
theorem kD {α β:Type} {f:α->Option β} {W:List α} {l:List β} (h:bd f W=some l):l.length=W.length:=(eG h).1.symm
theorem oJ {y:List UInt8} {l:List Int} (h:bC y=some l):0<l.length:=by
 have:=kD h;have:=dS 46 y;have:0<(al 46 y).length:=List.length_pos_iff.2 this;omega
theorem o7 {α β:Type} {f g:α->Option β} {P:β->Prop} (p1:∀ x y,f x=some y->P y->g x=some y) (p2:∀ x y,f x=some y->¬ P y->g x=none) (p3:∀ x,f x=none->g x=none) :
 ∀ W:List α,(∀ l,bd f W=some l->(∀ y∈l,P y)->bd g W=some l)/\(∀ l,bd f W=some l->¬ (∀ y∈l,P y)->bd g W=none)/\(bd f W=none->bd g W=none)
 | [] => by
   refine ⟨λl h _=>by simpa only [bd] using h,λl h hn=>?_,λh=>by simp [bd] at h⟩;simp only [bd,Option.some.injEq] at h;subst h;exact absurd (λy hy=>absurd hy List.not_mem_nil) hn
 | x :: W => by
   obtain ⟨h1,h2,h3⟩:=o7 p1 p2 p3 W
   cases e:f x with
   |none=>simp [bd,e,p3 x e]
   | some y =>
     by_cases hs:P y
     ·simp only [bd,e,p1 x y e hs]
      cases hW:bd f W with
      | none =>
        rw [h3 hW];refine ⟨λl h=>by simp at h,λl h=>by simp at h,λ_=>rfl⟩
      | some r =>
        refine ⟨λl h ho=>?_,λl h hn=>?_,λh=>by simp at h⟩
        ·simp only [Option.map_some,Option.some.injEq] at h
         subst h;rw [h1 r hW (λn hn=>ho n (by simp [hn]))];rfl
        ·simp only [Option.map_some,Option.some.injEq] at h
         subst h;rw [h2 r hW (λhr=>hn λn hm=>(List.mem_cons.1 hm).elim (λe=>e ▸ hs) (λhm=>hr n hm))];rfl
     ·simp only [bd,e,p2 x y e hs]
      refine ⟨λl h ho=>?_,λl h hn=>True.intro,λh=>True.intro⟩
      cases hW:bd f W with
      |none=>rw [hW] at h;simp at h
      | some r =>
        rw [hW] at h;simp only [Option.map_some,Option.some.injEq] at h;subst h;exact absurd (ho y (List.mem_cons_self ..)) hs
theorem kn {x:List UInt8} {y:Int} (h:cd x=some y):(aj x).2=true/\y=(aj x).1:=by
 unfold cd at h
 split at h
 ·rename_i hc;exact ⟨hc,(Option.some.inj h).symm⟩
 ·exact absurd h (by simp)
theorem qs {x:List UInt8} (h:cd x=none):¬ (aj x).2=true:=λhc=>by
 unfold cd at h;rw [if_pos hc] at h;exact absurd h (by simp)
theorem sK (W:List (List UInt8)):(∀ l,bd cd W=some l->a8 l->bd bV W=some l)/\(∀ l,bd cd W=some l->¬ a8 l->bd bV W=none)/\(bd cd W=none->bd bV W=none):=
 o7 (P:=cT) (λx y h hp=>by
  obtain ⟨h1,h2⟩:=kn h;rw [h2] at hp ⊢;unfold bV;rw [if_pos ⟨h1,hp⟩]) (λx y h hp=>by
  obtain ⟨h1,h2⟩:=kn h;rw [h2] at hp;unfold bV;rw [if_neg λh=>hp h.2]) (λx h=>by
  unfold bV;rw [if_neg λhc=>qs h hc.1]) W
theorem lG {s:List UInt8} (hs:s≠[45]):(∀ l,bC s=some l->a8 l->aI s=(l,true))/\(∀ l,bC s=some l->¬ a8 l->aI s=([],false))/\(bC s=none->aI s=([],false)):=by
 obtain ⟨h1,h2,h3⟩:=sK (al 46 s);unfold bC aI aR;rw [if_neg hs];exact ⟨λl h ho=>by rw [h1 l h ho];rfl,λl h ho=>by rw [h2 l h ho];rfl,λh=>by rw [h3 h];rfl⟩
theorem gI:aI [45]=([],true):=by unfold aI aR;rw [if_pos rfl];rfl
theorem gU {o:List Part} (h:ba o):∀ p∈o,Shp p/\p.n<=200:=by
 have e:bg o=normal o:=by unfold bg;rw [if_pos h.1]
 intro p hp;have h1:=h.1.1.1 p hp;refine ⟨?_,h1.bounds.2.2.1⟩;rw [<- h.2,e] at hp;exact gu h.1.1.1 p hp
theorem rC {p:Part} (h:Shp p) (hn:p.n<=200):0<=p.n/\p.n<=1000000000:=by have:=h.n;omega
theorem jM {p:Part} (h:Shp p) (h2:p.kind=2):p.signs≠[]:=λe=>by
 have:=h.pos;have h0:=(h.put h2).1;unfold psz at this;simp [e,h0] at this
theorem eT {l:List Int} (h:a8 l) (hl:l≠[]):aU l=cz l:=by unfold aU;rw [if_pos h,if_neg hl]
theorem j3 {l:List Int} (h:a8 l) (hl:l≠[]):aR (cz l)=some l:=by
 unfold aR
 rw [if_neg (oF hl), dC hl, fM λn hn => by
     unfold bV;rw [bw (eU (h n hn)),if_pos ⟨rfl,h n hn⟩]]
theorem gr {n:Int} (h:0<=n/\n<=1000000000):an n≠[]:=by rw [dG h];exact nV _
theorem sm {l:List Int} (h:∀ n∈l,0<=n/\n<=1000000000) (hl:l≠[]):cz l≠[]:=λe=>by
 have h':=dC hl;rw [e] at h'
 cases l with
 |nil=>exact hl rfl
 | cons n l =>
   have h1:al 46 []=[[]]:=rfl;rw [h1] at h';simp at h';exact gr (h n (by simp)) h'.1
theorem mv {n:Int} (h:0<=n/\n<=1000000000):cd (an n)=some n:=by unfold cd;rw [bw h];simp
theorem iW {n:Int} (h:0<=n/\n<=1000000000):bC (an n)=some [n]:=by
 have e:an n=cz [n]:=by unfold cz;rw [List.map_singleton,Lib.join_one]
 rw [e];exact gR (λm hm=>by rw [List.mem_singleton.1 hm];exact h) (by simp)
theorem eP {p:Part} (h:Shp p) (hn:p.n<=200):cb (ah p)=some p:=by
 obtain ⟨k,n,s⟩:=p;have h0:=rC h hn;rcases h.k with hk|hk|hk<;>simp only at hk h0<;>subst hk
 ·have hs:s=[]:=h.run (by simp)
  subst hs;simp [ah,cb,gr h0,mv h0]
 ·have hp:=h.put rfl
  simp only at hp;have hs:s≠[]:=jM h rfl;have hn0:n=0:=hp.1;subst hn0;have h1:=sm (λm hm=>eU (hp.2 m hm)) hs;simp [ah,cb,h1,j3 hp.2 hs]
 ·have hs:s=[]:=h.run (by simp)
  subst hs;simp [ah,cb,gr h0,mv h0]
theorem jV {p:Part} (h:Shp p) (hn:p.n<=200):cH (ah p)=some p:=by
 obtain ⟨k,n,s⟩:=p;have h0:=rC h hn;rcases h.k with hk|hk|hk<;>simp only at hk h0<;>subst hk
 ·have hs:s=[]:=h.run (by simp)
  subst hs;simp [ah,cH,iW h0]
 ·have hp:=h.put rfl
  simp only at hp;have hs:s≠[]:=jM h rfl;have hn0:n=0:=hp.1;subst hn0;simp [ah,cH,gR (λm hm=>eU (hp.2 m hm)) hs]
 ·have hs:s=[]:=h.run (by simp)
  subst hs;simp [ah,cH,iW h0]
theorem kK {c:UInt8} {sep:UInt8}:∀ {l:List (List UInt8)},c≠sep->(∀ w∈l,c ∉ w)->c ∉ Lib.join l [sep]
 | [],_,_=>by simp [Lib.join_nil]
 | [w],_,h=>by rw [Lib.join_one];exact h w (by simp)
 | w :: v :: r, hc, h => by
   have e:Lib.join (w::v::r) [sep]=w++sep::Lib.join (v::r) [sep]:=by
    rw [Lib.join_cons,Lib.join_cons];simp [Lib.joinTail]
   rw [e];intro hm;rcases List.mem_append.1 hm with hm|hm
   ·exact h w (by simp) hm
   ·rcases List.mem_cons.1 hm with hm|hm
    ·exact hc hm
    ·exact kK (l:=v::r) hc (λu hu=>h u (by simp [hu])) hm
theorem oE {c:UInt8} (hc:¬ cm c) (h46:c≠46) (l:List Int):c ∉ cz l:=kK h46 λw hw=>by
 obtain ⟨n,-,rfl⟩:=List.mem_map.1 hw;exact d3 n hc
theorem iY {c:UInt8} (hc:¬ cm c) (h46:c≠46) (h1:c≠107) (h2:c≠112) (h3:c≠100) (p:Part):c ∉ ah p:=by
 unfold ah
 split
 ·simp [h1,d3 p.n hc]
 ·split
  ·simp [h2,oE hc h46]
  ·simp [h3,d3 p.n hc]
theorem AE (p:Part):(32:UInt8) ∉ ah p:=iY (by unfold cm;decide) (by decide) (by decide) (by decide) (by decide) p
theorem AD (p:Part):(44:UInt8) ∉ ah p:=iY (by unfold cm;decide) (by decide) (by decide) (by decide) (by decide) p
theorem xv (p:Part):ah p≠[]:=by unfold ah;(repeat' split)<;>simp
theorem fJ {o:List Part} (h:ba o):aE o=if o=[] then [45] else Lib.join (o.map ah) [32]:=by
 unfold aE;rw [if_pos h.1,h.2]
theorem lM {o:List Part} (h:cr o):aE (bg o)=aE o:=by
 have h1:=bZ h;rw [fJ h1];unfold aE;rw [if_pos h]
theorem xw {p:Part} {l:List UInt8}:ah p≠45::l:=by
 unfold ah
 (repeat' split)<;>simp
theorem eX {o:List Part} (h:ba o) (ho:o≠[]):aE o≠[45]/\al 32 (aE o)=o.map ah:=by
 have e:aE o=Lib.join (o.map ah) [32]:=by rw [fJ h,if_neg ho]
 have hs:al 32 (aE o)=o.map ah:=by
  rw [e]
  exact ec 32 _ (by simpa using ho) (λw hw=>by
   obtain ⟨p,-,rfl⟩:=List.mem_map.1 hw;exact AE p)
 refine ⟨λe2=>?_,hs⟩;rw [e2] at hs;have h1:al 32 [45]=[[45]]:=by decide
 rw [h1] at hs
 cases o with
 |nil=>exact ho rfl
 | cons p o =>
   simp at hs;exact xw hs.1.symm
open Classical in
noncomputable def aY (s:List UInt8):List Part×Bool:=if h:∃ o,ba o/\aE o=s then (h.choose,true) else ([],false)
theorem eW {o:List Part} {f:List UInt8->Option Part} (hf:∀ p,Shp p->p.n<=200->f (ah p)=some p) (h:ba o) (ho:o≠[]):bd f (al 32 (aE o))=some o:=by
 rw [(eX h ho).2,fM λp hp=>hf p (gU h p hp).1 (gU h p hp).2]
theorem d6:ba []:=by
 have hp:bu []:=⟨by simp,by simp⟩;have:cr []:=⟨hp,by simp [cK,bk,hp,bM],by simp [iG,bk,hp,bM]⟩;refine ⟨this,?_⟩;unfold bg;rw [if_pos this];rfl
theorem eY:aE []=[45]:=by rw [fJ d6,if_pos rfl]
theorem qp {a b:List Part} (ha:ba a) (hb:ba b) (h:aE a=aE b):a=b:=by
 by_cases h1:a=[]
 ·subst h1
  by_cases h2:b=[]
  ·exact h2.symm
  ·rw [eY] at h;exact absurd h.symm (eX hb h2).1
 ·by_cases h2:b=[]
  ·subst h2;rw [eY] at h;exact absurd h (eX ha h1).1
  ·have e1:=eW (f:=cb) (λp h hn=>eP h hn) ha h1
   rw [h,eW (f:=cb) (λp h hn=>eP h hn) hb h2] at e1;exact (Option.some.inj e1).symm
theorem eC {o:List Part} (h:ba o):aY (aE o)=(o,true):=by
 unfold aY;have hx:∃ o',ba o'/\aE o'=aE o:=⟨o,h,rfl⟩;rw [dif_pos hx];rw [qp hx.choose_spec.1 h hx.choose_spec.2]
theorem iC {s:List UInt8} (h:∀ o,ba o->aE o≠s):aY s=([],false):=by
 unfold aY;rw [dif_neg]
 rintro ⟨o,h1,h2⟩
 exact h o h1 h2
theorem j4:aY [45]=([],true):=by
 have:=eC d6
 rwa [eY] at this
theorem iR (s:List UInt8):ba (aY s).1:=by
 unfold aY
 split
 ·rename_i h;exact h.choose_spec.1
 ·exact d6
theorem jU {s:List UInt8} {o:List Part} {f:List UInt8->Option Part} (hf:∀ p,Shp p->p.n<=200->f (ah p)=some p) (hs:s≠[45]) (h:ba o) (e:aE o=s):bd f (al 32 s)=some o:=by
 subst e;refine eW hf h λe=>hs ?_
 rw [e,eY]
theorem iS {s:List UInt8} {f:List UInt8->Option Part} (hf:∀ p,Shp p->p.n<=200->f (ah p)=some p) (hs:s≠[45]) (h:bd f (al 32 s)=none):aY s=([],false):=
 iC λo ho e=>by rw [jU hf hs ho e] at h;cases h
theorem uO {s:List UInt8} {out:List Part} (hs:s≠[45]) (h:bd cb (al 32 s)=some out):(ba out/\aE out=s->aY s=(out,true))/\(¬ (ba out/\aE out=s)->aY s=([],false)):=
 ⟨λ⟨h1,h2⟩=>by rw [<- h2,eC h1],λhn=>iC λo ho e=>hn (by
  rw [jU (λp h hn=>eP h hn) hs ho e] at h
  cases h
  exact ⟨ho,e⟩)⟩
theorem uP {s:List UInt8} {out:List Part} (hs:s≠[45]) (h:bd cH (al 32 s)=some out):(cr out/\aE out=s->aY s=(bg out,true))/\(¬ (cr out/\aE out=s)->aY s=([],false)):=
 ⟨λ⟨h1,h2⟩=>by rw [<- h2,<- lM h1,eC (bZ h1)],λhn=>iC λo ho e=>hn (by
  rw [jU (λp h hn=>jV h hn) hs ho e] at h
  cases h
  exact ⟨ho.1,e⟩)⟩
open Go.AM Go.RowKit
def mf (ev:Value):Prop:=ev=.nilIface\/∃ t p,ev=.iface t p
def tR (w:World):Prop:=(∃ ev,w.cell? ⟨Tryz.laysC172_ren.g 15,0,none⟩=some ev/\mf ev)/\(∃ ev,w.cell? ⟨Tryz.laysC172_ren.g 16,0,none⟩=some ev/\mf ev)
def LT (w:World):Prop:=
 Lib.TabIs Tryz.prog w "internal/strconv.uint64pow10" .u64 Lib.pow10Tab ∧ (∃ m, w.cell? ⟨1, 0, none⟩ = some (.int .i64 m)) ∧ tR w
theorem iN {w w':World} (h:BelowF (λc=>c<w.heap.size) w w') {a:Addr} {v:Value} (hc:w.cell? a=some v):w'.cell? a=some v:=by
 unfold World.cell? at hc ⊢
 cases hb:w.heap[a.block]? with
 |none=>rw [hb] at hc;cases hc
 |some o=>rw [h.block _ (bY hb),hb];rw [hb] at hc;exact hc
theorem tY {P:Program} {w w':World} (h:BelowF (λc=>c<w.heap.size) w w') {n:String} {cs:Array Value} (hc:w.var? P n=some cs):w'.var? P n=some cs:=by
 unfold World.var? at hc ⊢
 cases hg:P.globalNamed n with
 |none=>rw [hg] at hc;cases hc
 | some g =>
   rw [hg] at hc;simp only [Option.bind_some] at hc ⊢
   cases hb:w.heap[g]? with
   |none=>rw [hb] at hc;cases hc
   |some o=>rw [h.block _ (bY hb),hb];rw [hb] at hc;exact hc
theorem tR.stay:LSt tR:=λ_w _w' h ⟨⟨e1,h3,h4⟩,⟨e2,h5,h6⟩⟩=>⟨⟨e1,iN h h3,h4⟩,⟨e2,iN h h5,h6⟩⟩
theorem LT.stay:LSt LT:=λw w' h ⟨h1,⟨m,h2⟩,h3⟩=>⟨tY h h1,⟨m,iN h h2⟩,tR.stay w w' h h3⟩
theorem yy {xs:Array Value} (h:xs.size=1):∃ a,xs = #[a]:=by
 obtain ⟨l⟩:=xs
 match l,h with
 | [a],_=>exact ⟨a,rfl⟩
theorem BE {xs:Array Value} (h:xs.size=2):∃ a b,xs = #[a,b]:=by
 obtain ⟨l⟩:=xs
 match l,h with
 | [a,b],_=>exact ⟨a,b,rfl⟩
theorem Gp {xs:Array Value} (h:xs.size=3):∃ a b c,xs = #[a,b,c]:=by
 obtain ⟨l⟩:=xs
 match l,h with
 | [a,b,c],_=>exact ⟨a,b,c,rfl⟩
theorem nk {w:World} {v u:Value} (h:RdV w v (.c (.v u))):v=u:=by cases h;rfl
theorem kM (c:UInt8):∀ (a b:List UInt8),c ∉ a->Lib.index (a++c::b) [c]=(a.length:Int)
 | [],b,_=>by simp [Lib.index,List.isPrefixOf]
 | x :: a, b, h => by
   have hx:c≠x:=λe=>h (by simp [e])
   have ih:=kM c a b (λe=>h (by simp [e]));have hp:([c]:List UInt8).isPrefixOf (x::(a++c::b))=false:=by simp [List.isPrefixOf,hx]
   rw [List.cons_append,Lib.index,hp,ih];have hn:¬ (((a.length:Int) == -1)=true):=by rw [beq_iff_eq];omega
   simp only [Bool.false_eq_true,if_false,if_neg hn,List.length_cons];omega
theorem px (c:UInt8) (l:List UInt8) (h:c∈l):∃ a b,l=a++c::b/\c ∉ a:=by
 induction l with
 |nil=>simp at h
 | cons x l ih =>
   by_cases hx:x=c
   ·exact ⟨[],l,by simp [hx],by simp⟩
   ·obtain ⟨a,b,h1,h2⟩:=ih (by rcases List.mem_cons.1 h with h|h;exact absurd h.symm hx;exact h)
    exact ⟨x::a,b,by simp [h1],λe=>by rcases List.mem_cons.1 e with e|e;exact hx e.symm;exact h2 e⟩
theorem qd (c:UInt8):∀ (n:Nat) (l:List UInt8),l.length<=n->Lib.splitK [c] 0 (Lib.count l [c]) l=al c l:=by
 intro n
 induction n with
 | zero =>
   intro l hl;have:l=[]:=List.length_eq_zero_iff.1 (by omega);subst this;rw [Lib.count_one];rfl
 | succ n ih =>
   intro l hl;by_cases hc:c∈l
   ·obtain ⟨a,b,rfl,ha⟩:=px c l hc
    have hi:=kM c a b ha;have hd:(a++c::b).drop (a.length+1)=b:=by simp
    rw [Lib.count_hit (by simp) hi,Nat.add_comm,Lib.splitK,hi];have hn:¬ (((a.length:Int) == -1)=true):=by rw [beq_iff_eq];omega
    rw [if_neg hn,eQ c a b ha];simp only [Int.toNat_natCast,List.length_singleton,Nat.add_zero,hd];simp at hl;rw [ih b (by omega)];simp
   ·have h0:Lib.count l [c]=0:=by rw [Lib.count_one];exact List.count_eq_zero.2 hc
    rw [h0,f4 c l hc];rfl
theorem gL (s:List UInt8) (c:UInt8):Lib.splitB (bs [c]) 0 (Lib.countB (bs s) (bs [c])) (bs s)=(al c s).map bs:=by
 have h:=Lib.splitB_data (bs [c]) 0 (Lib.countB (bs s) (bs [c])) (bs s);have hc:Lib.countB (bs s) (bs [c])=Lib.count s [c]:=rfl;rw [bE,bE,hc,qd c s.length s (Nat.le_refl _)] at h;rw [<- h,List.map_map,hc]
 conv=>lhs;rw [<- List.map_id (Lib.splitB (bs [c]) 0 (Lib.count s [c]) (bs s))]
 exact List.map_congr_left λx _=>(dA x).symm
theorem nj (c d:UInt8):∀ (n:Nat) (l:List UInt8),l.length<=n->Lib.replaceK [c] [d] (Lib.count l [c]) l=l.map λx=>if x=c then d else x:=by
 intro n
 induction n with
 | zero =>
   intro l hl;have:l=[]:=List.length_eq_zero_iff.1 (by omega);subst this;rw [Lib.count_one];rfl
 | succ n ih =>
   intro l hl
   have hno:∀ a:List UInt8,c ∉ a->(a.map λx=>if x=c then d else x)=a:=λa ha=>by
    conv=>rhs;rw [<- List.map_id a]
    exact List.map_congr_left λx hx=>by rw [if_neg (λe=>ha (by rw [<- e];exact hx))];rfl
   by_cases hc:c∈l
   ·obtain ⟨a,b,rfl,ha⟩:=px c l hc
    have hi:=kM c a b ha;have hd:(a++c::b).drop (a.length+1)=b:=by simp
    rw [Lib.count_hit (by simp) hi,Nat.add_comm,Lib.replaceK_hit _ _ _ _ _ hi];simp at hl;simp only [List.length_singleton,hd,ih b (by omega),List.map_append,List.map_cons,hno a ha];simp
   ·have h0:Lib.count l [c]=0:=by rw [Lib.count_one];exact List.count_eq_zero.2 hc
    rw [h0,hno l hc];rfl
theorem oI (s:List UInt8) (c d:UInt8) (h:c≠d):Lib.replaceAll s [c] [d]=s.map λx=>if x=c then d else x:=by
 unfold Lib.replaceAll Lib.replace;have hn:¬ (([c]:List UInt8) == [d])=true:=by rw [beq_iff_eq];simpa using h
 rw [if_neg hn];exact nj c d s.length s (Nat.le_refl _)
theorem A9 (n:Int) (h0:0<=n) (h1:n<=9223372036854775807):aW Tryz.prog LT 90 [.c (vi n)] (.one (.c (vs (Lib.itoa n)) 1)):=by
 refine ⟨⟨_,Tryz.func90,by kernel_rfl,by kernel_rfl⟩,λw hL xs hxs hargs=>?_⟩;obtain ⟨a,rfl⟩:=yy hxs;obtain rfl:=nk (hargs 0 _ rfl);refine (Any.strconv_Itoa l7 n (by omega) h1 w hL.1).mono ?_
 rintro e w' ⟨rfl,k,os,rfl⟩
 exact ⟨_,rfl,Lib.below_grow _ _ (Nat.le_refl _) k os,rfl,rfl⟩
theorem mp (s:List UInt8) (c d:UInt8) (hcd:c≠d) (hl:s.length<=2 ^ 31):aW Tryz.prog LT 91 [.c (vs s),.c (vs [c]),.c (vs [d])] (.one (.c (vs (s.map λx=>if x=c then d else x)) 1)):=by
 refine ⟨⟨_,Tryz.func91,by kernel_rfl,by kernel_rfl⟩,λw hL xs hxs hargs=>?_⟩;obtain ⟨a,b,f,rfl⟩:=Gp hxs;obtain rfl:=nk (hargs 0 _ rfl);obtain rfl:=nk (hargs 1 _ rfl);obtain rfl:=nk (hargs 2 _ rfl);obtain ⟨m,hm⟩:=hL.2.1;have hc:=Lib.countB_le (bs [c]) (by rw [aF];simp) (bs s).size (bs s) (Nat.le_refl _);refine (Any.strings_ReplaceAll oj fl (bs s) (bs [c]) (bs [d]) m w (by rw [aF];omega) hm (by rw [aF];simp) (by rw [aF] at hc ⊢;rw [aF];simp;omega)).mono ?_
 rintro e w' ⟨rfl,hb⟩
 refine ⟨_,rfl,hb,?_,rfl⟩;simp only [bE,oI s c d hcd];rfl
theorem rB (s:List UInt8) (c:UInt8) (hl:s.length<=2 ^ 31):aW Tryz.prog LT 96 [.c (vs s),.c (vs [c])] (.one (.c (.s ((al c s).map wR)) 1)):=by
 refine ⟨⟨_,Tryz.func96,by kernel_rfl,by kernel_rfl⟩,λw hL xs hxs hargs=>?_⟩;obtain ⟨a,b,rfl⟩:=BE hxs;obtain rfl:=nk (hargs 0 _ rfl);obtain rfl:=nk (hargs 1 _ rfl);obtain ⟨m,hm⟩:=hL.2.1;refine (Any.strings_Split ol (by kernel_rfl) (bs s) (bs [c]) m w (by rw [aF];omega) hm (by rw [aF];simp)).mono ?_
 rintro e w' ⟨rfl,rfl⟩
 rw [gL]
 have hlen:Lib.countB (bs s) (bs [c])+1=(al c s).length:=by
  have h1:=Lib.splitB_all (bs [c]) (by rw [aF];simp) 0 _ (bs s) rfl;rw [gL] at h1
  simpa using h1.symm
 have hcl:=Lib.countB_le (bs [c]) (by rw [aF];simp) (bs s).size (bs s) (Nat.le_refl _);rw [aF] at hcl;rw [hlen];have hb:(w.alloc (.cells (((al c s).map bs).map Value.string).toArray (Tryz.lays146_ren.t 9))).heap[w.heap.size]? = some (.cells (((al c s).map bs).map Value.string).toArray (Tryz.lays146_ren.t 9) (0,0)):=po w _;refine ⟨_,rfl,(Below.refl _ w).alloc (Nat.le_refl _) _,by simp,by simp [wR],.inr ⟨w.heap.size,0,(al c s).length,_,_,λ_ _ _=>False,by simp,⟨Nat.le_refl _,bY hb⟩,hb,by simp,by unfold maxLen;omega,by simp,λ_ _ _ h=>h.elim,λ_ _ _ _ _ h=>h.elim,λi j row d hi hj=>?_⟩⟩;rw [List.getElem?_map] at hi
 cases hw:(al c s)[i]? with
 |none=>rw [hw] at hi;cases hi
 | some x =>
   rw [hw] at hi
   cases hi
   unfold wR at hj
   match j,hj with
   | 0, hj =>
     cases hj
     have:(((al c s).map bs).map Value.string).toArray.getD (0+(i*1+0)) undef=.string (bs x):=by simp [hw]
     rw [this];exact .plain rfl
theorem vE (l:List (List UInt8)) (c:UInt8) (hl:l.length<=2 ^ 40) (hj:(Lib.join l [c]).length<=140737488355328):aW Tryz.prog LT 119 [.c (.s (l.map wR)),.c (vs [c])] (.one (.c (vs (Lib.join l [c])) 1)):=by
 refine ⟨⟨_,Tryz.func119,by kernel_rfl,by kernel_rfl⟩,λw hL xs hxs hargs=>?_⟩;obtain ⟨a,b,rfl⟩:=BE hxs;have h0:Rd w false (λ_=>True) a (.s (l.map wR)):=hargs 0 _ rfl;obtain rfl:=nk (hargs 1 _ rfl);by_cases hn:l=[]
 ·subst hn
  obtain ⟨x,y,rfl⟩:=h0.empty_slice;refine (Any.strings_Join_none iy dl x y (bs [c]) w).mono ?_
  rintro e w' ⟨rfl,rfl⟩
  exact ⟨_,rfl,Below.refl _ _,rfl,rfl⟩
 generalize hr:l.map wR=rows at h0
 cases h0 with
 |empty a cap h=>exact absurd (List.map_eq_nil_iff.1 hr) hn
 | slice b off cap sz cs T fr rows F hcap hmax hsz hS hb hfit hown hF hd hlen hrd =>
   subst hr
   have hsz1:sz=1:=by
    cases l with
    |nil=>exact absurd rfl hn
    |cons x l=>have:=hlen (wR x) (by simp);rw [ce] at this;exact this.symm
   subst hsz1
   have hcells:∀ (j:Nat) x,(l.map bs)[j]? = some x->w.cell? ⟨b,off+j,none⟩=some (.string x):=λj x hj=>by
    rw [List.getElem?_map] at hj
    cases hx:l[j]? with
    |none=>rw [hx] at hj;cases hj
    | some y =>
      rw [hx] at hj
      cases hj
      have h1:=hrd j 0 (wR y) (vs y) (by rw [List.getElem?_map,hx];rfl) rfl;have hjl:j<l.length:=(List.getElem?_eq_some_iff.1 hx).1;simp only [List.length_map] at hfit;have h2:off+(j*1+0)<cs.size:=by omega
      have e3:off+(j*1+0)=off+j:=by omega
      rw [e3] at h1 h2;unfold World.cell?;rw [hb];generalize hv:cs.getD (off+j) undef=v at h1
      cases h1
      rw [Array.getD_eq_getD_getElem?,Array.getElem?_eq_getElem h2] at hv;simp at hv;simp [h2,hv]
   have hd2:(l.map bs).map (·.data.toList)=l:=by
    rw [List.map_map]
    conv=>rhs;rw [<- List.map_id l]
    exact List.map_congr_left λx _=>bE x
   have:=Any.strings_Join iy dl b off cap (l.map bs) (bs [c]) w hcells (bY hb) (by rw [List.length_map];omega) (by rw [List.length_map] at hcap ⊢;exact hcap) (by rw [hd2,bE];exact hj);rw [hd2,bE] at this;simp only [List.length_map] at this ⊢;refine this.mono ?_
   rintro e w' ⟨rfl,hB⟩
   exact ⟨_,rfl,hB,rfl,rfl⟩
set_option maxRecDepth 100000
set_option maxHeartbeats 4000000
theorem aZ (n:Int):aW Tryz.prog LT 48 [.c (vi n)] (.one (.c (vs (an n)) 1)):=by
 refine aW.intro' aq LT.stay Tryz.func48 (by kernel_rfl) rfl rfl rfl (Nat.le_of_ble_eq_true rfl) (λw0 base hE=>?_);simp;refine aa.pure (bN n 0 1000000000) (by simp) ?_;by_cases h:0<=n/\n<=1000000000
 ·have e:Lib.itoa n=an n:=by unfold Lib.itoa an;rw [if_neg (by omega),if_pos h]
  simp [h];refine ab hE (A9 n (by omega) (by omega)) (by simp) ?_;simp [e]
 ·have e:an n=[]:=by unfold an;rw [if_neg h]
  simp [h,e];rfl
theorem LT.below {w w':World} (h:Below w.heap.size w w') (hL:LT w):LT w':=LT.stay w w' ⟨h.os,h.tape,h.output,h.size,h.block⟩ hL
theorem jX {s:List UInt8} (h:s≠[]):(bs s).toList.isEmpty=false:=by
 have e:(bs s).toList=s:=by rw [ByteArray.toList_eq,bE]
 rw [e]
 cases s with
 |nil=>exact absurd rfl h
 |cons x l=>rfl
theorem zH (s r:ByteArray) (v:Int) (w:World) (hs:s.toList.isEmpty=false) (hb:(r.toList == s.toList)=true)
 (A:Calls Tryz.prog 125 #[.string s] w λe w'=>e=.returned (.tuple #[.int .i64 v,.nilIface])/\Below w.heap.size w w')
 (N:∀ W,Below w.heap.size w W->Calls Tryz.prog 48 #[.int .i64 v] W λe w'=>e=.returned (.string r)/\Below w.heap.size w w') :
 Calls Tryz.prog 97 #[.string s] w λe w'=>e=.returned (.tuple #[.int .i64 v,.bool true])/\Below w.heap.size w w':=by
 go_enter Tryz.func97,Tryz.ntmps97
 go_wp2_with (go_at_call 125;refine A.mono ?_;rintro e w1 ⟨rfl,h1⟩)
 go_wp2_with (go_at_call 48;refine (N _ h1).mono ?_;rintro e w2 ⟨rfl,h2⟩)
 go_ret2
 exact ⟨rfl,h2⟩
theorem Dg (s r:ByteArray) (v:Int) (w:World) (hs:s.toList.isEmpty=false) (hb:(r.toList == s.toList)=false)
 (A:Calls Tryz.prog 125 #[.string s] w λe w'=>e=.returned (.tuple #[.int .i64 v,.nilIface])/\Below w.heap.size w w')
 (N:∀ W,Below w.heap.size w W->Calls Tryz.prog 48 #[.int .i64 v] W λe w'=>e=.returned (.string r)/\Below w.heap.size w w') :
 Calls Tryz.prog 97 #[.string s] w λe w'=>e=.returned (.tuple #[.int .i64 0,.bool false])/\Below w.heap.size w w':=by
 go_enter Tryz.func97,Tryz.ntmps97
 go_wp2_with (go_at_call 125;refine A.mono ?_;rintro e w1 ⟨rfl,h1⟩)
 go_wp2_with (go_at_call 48;refine (N _ h1).mono ?_;rintro e w2 ⟨rfl,h2⟩)
 go_ret2
 exact ⟨rfl,h2⟩
theorem ub (s:ByteArray) (v:Int) (w:World)
 (A:Calls Tryz.prog 125 #[.string s] w λe w'=>(∃ t p,e=.returned (.tuple #[.int .i64 v,.iface t p]))/\Below w.heap.size w w') :
 Calls Tryz.prog 97 #[.string s] w λe w'=>e=.returned (.tuple #[.int .i64 0,.bool false])/\Below w.heap.size w w':=by
 go_enter Tryz.func97,Tryz.ntmps97
 go_wp2_with (go_at_call 125;refine A.mono ?_;rintro e w1 ⟨⟨t,p,rfl⟩,h1⟩)
 go_ret2
 exact ⟨rfl,h1⟩
theorem gj (s:List UInt8) (hl:s.length<=2 ^ 31):aW Tryz.prog LT 97 [.c (vs s)] (.tup [.c (vi (aj s).1) 1,.c (.v (.bool (aj s).2)) 1]):=by
 refine ⟨⟨_,Tryz.func97,by kernel_rfl,by kernel_rfl⟩,λw hL xs hxs hargs=>?_⟩;obtain ⟨a,rfl⟩:=yy hxs;obtain rfl:=nk (hargs 0 _ rfl);have hL0:=hL;obtain ⟨_,_,⟨e1,hv1,he1⟩,⟨e2,hv2,he2⟩⟩:=hL
 have hend:∀ (x:Int) (b:Bool),aj s=(x,b)->(Calls Tryz.prog 97 #[.string (bs s)] w λe w'=>e=.returned (.tuple #[.int .i64 x,.bool b])/\Below w.heap.size w w')->Calls Tryz.prog 97 #[.string (bs s)] w λe w'=>∃ v,e=.returned v/\Below w.heap.size w w'/\pZ w' (λc=>w.heap.size<=c/\c<w'.heap.size) v (.tup [.c (vi (aj s).1) 1,.c (.v (.bool (aj s).2)) 1]):=λx b e hc=>by
  refine hc.mono ?_
  rintro _ w' ⟨rfl,hb⟩
  refine ⟨_,rfl,hb,_,λ_ _=>False,rfl,rfl,λ_ _ h=>h.elim,λ_ _ _ h=>h.elim,λj t hj=>?_⟩;rw [e] at hj
  match j,hj with
  |0,hj=>cases hj;exact ⟨rfl,rfl⟩
  |1,hj=>cases hj;exact ⟨rfl,rfl⟩
 have hsz:(bs s).size<=281474976710656:=by rw [aF];omega
 have hN:∀ v:Int,∀ W,Below w.heap.size w W->Calls Tryz.prog 48 #[.int .i64 v] W λe w'=>e=.returned (.string (bs (an v)))/\Below w.heap.size w w':=λv W hb=>by
  refine ((aZ v).2 W (LT.below hb hL0) #[.int .i64 v] rfl (λi vd hi=>?_)).mono ?_
  ·match i,hi with
   |0,hi=>cases hi;exact .plain rfl
  ·rintro e w' ⟨u,rfl,h1,h2⟩
   obtain ⟨rfl,-⟩:=h2;exact ⟨rfl,hb.trans (h1.mono hb.size)⟩
 cases h:Lib.atoiAll s with
 | ok v =>
   have hs:s≠[]:=λe=>by subst e;cases h
   have hn:=m5 h
   have hA:Calls Tryz.prog 125 #[.string (bs s)] w λe w'=>e=.returned (.tuple #[.int .i64 v,.nilIface])/\Below w.heap.size w w':=by
    refine (Any.strconv_Atoi_ok eB (bs s) (by omega) v (by rw [bE];exact h) w).mono ?_
    rintro e w' ⟨rfl,rfl|⟨t,rfl⟩⟩
    ·exact ⟨rfl,Below.refl _ _⟩
    ·exact ⟨rfl,Lib.bytesWorld_below _ _ _⟩
   by_cases hq:an v=s
   ·exact hend v true (hn.1 hq) (zH (bs s) (bs (an v)) v w (jX hs) (by rw [hq,m6];simp [dc]) hA (hN v))
   ·exact hend 0 false (hn.2 hq) (Dg (bs s) (bs (an v)) v w (jX hs) (by rw [m6,bT,cg];exact hq) hA (hN v))
 | «syntax» =>
   refine hend 0 false (gJ λv e=>by rw [h] at e;cases e) (ub (bs s) 0 w ?_);refine (Any.strconv_Atoi_syntax eB (bs s) hsz (by rw [bE];exact h) e1 w hv1 he1).mono ?_
   rintro e w' ⟨N,rfl,-,-,hb⟩
   exact ⟨⟨_,_,rfl⟩,hb⟩
 | range =>
   refine hend 0 false (gJ λv e=>by rw [h] at e;cases e) (ub (bs s) (Lib.atoiSat (bs s).data.toList) w ?_);refine (Any.strconv_Atoi_range eB (bs s) hsz (by rw [bE];exact h) e2 w hv2 he2).mono ?_
   rintro e w' ⟨N,rfl,-,-,hb⟩
   exact ⟨⟨_,_,rfl⟩,hb⟩
set_option maxRecDepth 20000
set_option maxHeartbeats 6400000
attribute [local simp] dn cp aF cg ce
theorem xU {l:List (List UInt8)} {B:Nat} (h:∀ w∈l,w.length<=B):Lib.lens l<=B*l.length:=by
 induction l with
 |nil=>simp [Lib.lens]
 | cons x l ih =>
   have h1:=h x (by simp);have h2:=ih λw hw=>h w (by simp [hw])
   have e:Lib.lens (x::l)=x.length+Lib.lens l:=by simp [Lib.lens]
   rw [e,List.length_cons,Nat.mul_succ];omega
theorem nw {l:List (List UInt8)} {B:Nat} {c:UInt8} (h:∀ w∈l,w.length<=B):(Lib.join l [c]).length<=(B+1)*l.length:=by
 cases l with
 |nil=>simp [Lib.join_nil]
 | cons x l =>
   rw [Lib.join_length];have:=xU h;rw [Nat.add_mul];simp at this ⊢;omega
theorem bi (n:Int):(an n).length<=10:=by
 unfold an
 split
 ·exact kV 9 _ (by omega)
 ·simp
theorem eE (l:List Int):(cz l).length<=11*l.length:=by
 have h:=nw (l:=l.map an) (B:=10) (c:=46) (λw hw=>by obtain ⟨n,-,rfl⟩:=List.mem_map.1 hw;exact bi n)
 simpa [cz] using h
theorem ic (l:List Int) (hl:l.length<=2 ^ 40):aW Tryz.prog LT 89 [.c (.s (l.map bb))] (.one (.c (vs (cz l)) 1)):=by
 refine aW.intro' aq LT.stay Tryz.func89 (by kernel_rfl) rfl rfl rfl (Nat.le_of_ble_eq_true rfl) (λw0 base hE=>?_);simp;refine aK hE (λx:Nat×Hd=>x.1<=l.length) (λx=>⟨20,0,[(8,.v (.int .i64 x.1)),(7,.v (.int .i64 l.length)),(6,.ro (l.map bb)),(3,.sl 5000 x.2 1 0 x.1)],[(5000,.rows x.2 1 (((l.take x.1).map an).map wR) true)]⟩) (λx=>l.length - x.1) (0,none) (by simp) (by simp) (λx hx=>Ent.refl ?_);obtain ⟨i,H⟩:=x;simp only at hx ⊢;by_cases hlt:i<l.length
 ·simp [hlt]
  refine ab hE (aZ l[i]) (by simp) ?_;simp;intro b;have e1:i=min i l.length:=by omega
  refine ⟨e1,by omega,λH2=>Ent.refl ⟨i+1,by omega,by omega,H2,?_⟩⟩;simp;exact ⟨aB (by omega),f3 (f:=wR ∘ an) hlt⟩
 ·have e:i=l.length:=by omega
  subst e;simp;refine ab hE (vE (l.map an) 46 (by simpa using hl) (by have:=eE l;unfold cz at this;omega)) (by simp) ?_;simp [cz]
theorem kP (l:List Int) (hl:l.length<=2 ^ 40):aW Tryz.prog LT 47 [.c (.s (l.map bb))] (.one (.c (vs (aU l)) 1)):=by
 refine aW.intro' aq LT.stay Tryz.func47 (by kernel_rfl) rfl rfl rfl (Nat.le_of_ble_eq_true rfl) (λw0 base hE=>?_);simp;refine aa.pure (dz l hl) (by simp) ?_;by_cases h:a8 l
 ·by_cases h0:l=[]
  ·have e:aU l=[45]:=by unfold aU;rw [if_pos h,if_pos h0]
   have h0':(l.length:Int)=0:=by rw [h0];rfl
   simp [h,h0',e]
  ·have e:aU l=cz l:=eT h h0
   have h0':¬ (l.length:Int)=0:=by have:=List.length_pos_iff.2 h0;omega
   simp [h,h0,e];refine ab hE (ic l hl) (by simp) ?_;simp
 ·have e:aU l=[]:=by unfold aU;rw [if_neg h]
  simp [h,e]
theorem eH (s:List UInt8) (hl:s.length<=2 ^ 31):aW Tryz.prog LT 100 [.c (vs s)] (.tup [.c (.s ((eV (bC s)).1.map bb)) 1,.c (.v (.bool (eV (bC s)).2)) 1]):=by
 refine aW.intro' aq LT.stay Tryz.func100 (by kernel_rfl) rfl rfl rfl (Nat.le_of_ble_eq_true rfl) (λw0 base hE=>?_);simp;refine ab hE (rB s 46 hl) (by simp) ?_;simp;intro H;obtain ⟨W,hW⟩:∃ W,al 46 s=W:=⟨_,rfl⟩;have hlen:=(bf 46 s).1;have hw:=(bf 46 s).2;have hrd:bC s=bd cd W:=by unfold bC;rw [hW]
 rw [hW] at hlen hw ⊢
 refine aK hE (λx:Nat×List Int×Hd=>x.1<=W.length/\x.2.1.length=x.1/\bC s=(bd cd (W.drop x.1)).map (x.2.1 ++ ·)) (λx=>⟨29,0,[(12,.v (.int .i64 x.1)),(11,.v (.int .i64 W.length)),(10,.sl 160 H 1 0 W.length),(4,.sl 5000 x.2.2 1 0 x.2.1.length),(3,.v (.bool false)),(2,.nil)],
  [(160,.rows H 1 (W.map wR) true),(5000,.rows x.2.2 1 (x.2.1.map bb) true)]⟩) (λx=>W.length - x.1) (0,[],none) ⟨by simp,by simp,by simp [hrd]⟩ (by simp) (λx hi=>Ent.refl ?_)
 obtain ⟨i,out,K⟩:=x;obtain ⟨h1,h2,h3⟩:=hi;simp only at h1 h2 h3 ⊢;by_cases hlt:i<W.length
 ·have hx:=hw W[i] (List.getElem_mem hlt)
  have hst:bC s=(cd W[i]).bind λy=>(bd cd (W.drop (i+1))).map λr=>out++(y::r):=by
   rw [h3,f8 hlt]
   cases cd W[i]<;>simp [Function.comp_def]
  simp [hlt,wR];refine ab hE (gj W[i] (by omega)) (by simp) ?_;by_cases hok:(aj W[i]).2=true
  ·have hn:cd W[i]=some (aj W[i]).1:=by unfold cd;rw [if_pos hok]
   simp [hok];intro b;refine ⟨by omega,λH1=>Ent.refl ⟨i+1,out++[(aj W[i]).1],⟨by omega,by simp;omega,?_⟩,by omega,H1,?_⟩⟩
   ·rw [hst,hn];simp
   ·simp
    exact aB (by omega)
  ·have hn:cd W[i]=none:=by unfold cd;rw [if_neg hok]
   have hr:bC s=none:=by rw [hst,hn];rfl
   have hok':(aj W[i]).2=false:=by simpa using hok
   simp [hok',hr,eV]
 ·have e:i=W.length:=by omega
  have hm:bC s=some out:=by rw [h3,List.drop_of_length_le (by omega)];simp [bd]
  simp [hlt,hm,eV]
theorem xL {α β:Type} {f:α->Option β} {W:List α} {l:List β} (h:bd f W=some l):l.length<=W.length:=Nat.le_of_eq (kD h)
theorem kg {s:List UInt8} {l:List Int} (h:bC s=some l):l.length<=s.length+1:=Nat.le_trans (xL h) (bf 46 s).1
theorem fQ (s:List UInt8) (hl:s.length<=2 ^ 31):aW Tryz.prog LT 65 [.c (vs s)] (.tup [.c (.s ((aI s).1.map bb)) 1,.c (.v (.bool (aI s).2)) 1]):=by
 refine aW.intro' aq LT.stay Tryz.func65 (by kernel_rfl) rfl rfl rfl (Nat.le_of_ble_eq_true rfl) (λw0 base hE=>?_);by_cases hs:s=[45]
 ·subst hs
  simp [gI]
 ·obtain ⟨t1,t2,t3⟩:=lG hs
  simp [hs];refine ab hE (eH s hl) (by simp) ?_
  cases hr:bC s with
  |none=>simp [eV,t3 hr]
  | some l =>
    have hll:=kg hr;simp [eV];intro H;refine aa.pure (dz l (by omega)) (by simp) ?_;by_cases ho:a8 l
    ·simp [ho,t1 l hr ho]
    ·simp [ho,t2 l hr ho]
theorem rN {p:Part} (h:aH p):(ah p).length<=2201:=by
 have hb:=h.bounds;have h1:=bi p.n;have h2:=eE p.signs;unfold ah
 split
 ·simp;omega
 ·split<;>simp<;>omega
theorem eF (o:List Part):(aE o).length<=2500000:=by
 unfold aE
 split
 ·rename_i h
  split
  ·simp
  ·have h1:=(bZ h).1
   have h2:=nw (l:=(bg o).map ah) (B:=2201) (c:=32) (λw hw=>by obtain ⟨p,hp,rfl⟩:=List.mem_map.1 hw;exact rN (h1.1.1 p hp));have h3:=h1.1.2;simp at h2;omega
 ·simp
end Go.Proofs.YthckkpphnmmfdaaGreatDoor
namespace Go.AM
open Go.RowKit
mutual
def fz (k:Nat) (H:Hd) (sz:Nat) (rs:List (List CD)):AV->AV
 | .sl k' H' sz' off len=>if k'=k then (if H'=H/\sz'=sz/\off+len<=rs.length then .ro (cut rs off len) else .any) else .sl k' H' sz' off len
 | .agg l=>.agg (fzL k H sz rs l)
 | .tup l=>.tup (fzL k H sz rs l)
 | .clo f l=>.clo f (fzL k H sz rs l)
 | .any=>.any
 | .un=>.un
 | .nil=>.nil
 | .v u=>.v u
 | .ro r=>.ro r
 | .p a b c=>.p a b c
 | .e a b c d e=>.e a b c d e
 | .rp r=>.rp r
 | .cv u n=>.cv u n
 | .ml a b c d=>.ml a b c d
 | .is u=>.is u
def fzL (k:Nat) (H:Hd) (sz:Nat) (rs:List (List CD)):List AV->List AV
 | []=>[]
 |a::l=>fz k H sz rs a::fzL k H sz rs l
end
def fzO (k:Nat) (H:Hd) (sz:Nat) (rs:List (List CD)):AObj->AObj
 | .vars b T cells=>.vars b T (fzL k H sz rs cells)
 |o=>o
def fzT (k:Nat) (H:Hd) (sz:Nat) (rs:List (List CD)) (t:List (Nat×AV)):List (Nat×AV):=t.map λp=>(p.1,fz k H sz rs p.2)
def fzH (k:Nat) (H:Hd) (sz:Nat) (rs:List (List CD)):AH->AH
 | []=>[]
 |(i,o)::h=>(i,fzO k H sz rs o)::fzH k H sz rs h
section rules
variable {k:Nat} {H:Hd} {sz:Nat} {rs:List (List CD)}
theorem ye:fzT k H sz rs []=[]:=(rfl)
theorem vT {i:Nat} {v:AV} {t:List (Nat×AV)}:fzT k H sz rs ((i,v)::t)=(i,fz k H sz rs v)::fzT k H sz rs t:=(rfl)
theorem vY {i:Nat} {o:AObj} {h:AH}:fzH k H sz rs ((i,o)::h)=(i,fzO k H sz rs o)::fzH k H sz rs h:=(rfl)
theorem yh:fzH k H sz rs []=[]:=(rfl)
theorem pt:∀ (W:cq) (i:Nat),fzH k H sz rs (cO i W)=cO i W
 | [],i=>rfl
 | q :: l, i => by
   have e:∀ xs:List Value,fzL k H sz rs (xs.map .is)=xs.map .is:=by
    intro xs
    induction xs with
    |nil=>rfl
    |cons x xs ih=>simp [fzL,fz,ih]
   simp [cO,fzH,phO,fzO,e,pt l]
theorem yg {W:cq}:fzH k H sz rs (phs W)=phs W:=pt W _
theorem vU {b:Nat} {T:TypeId} {l:List AV}:fzO k H sz rs (.vars b T l)=.vars b T (fzL k H sz rs l):=(rfl)
theorem vV {H':Hd} {sz':Nat} {r:List (List CD)} {own:Bool}:fzO k H sz rs (.rows H' sz' r own)=.rows H' sz' r own:=(rfl)
theorem vW:fzO k H sz rs .dead=.dead:=(rfl)
theorem yf:fzL k H sz rs []=[]:=by simp [fzL]
theorem vX {a:AV} {l:List AV}:fzL k H sz rs (a::l)=fz k H sz rs a::fzL k H sz rs l:=by rw [fzL]
theorem Gh {u:Value}:fz k H sz rs (.v u)=.v u:=by rw [fz]
theorem Bl:fz k H sz rs .any=.any:=by rw [fz]
theorem DV:fz k H sz rs .un=.un:=by rw [fz]
theorem Bj:fz k H sz rs .nil=.nil:=by rw [fz]
theorem DY {r:List (List CD)}:fz k H sz rs (.ro r)=.ro r:=by rw [fz]
theorem DX {r:List CD}:fz k H sz rs (.rp r)=.rp r:=by rw [fz]
theorem D0 {u:Value} {n:Nat}:fz k H sz rs (.cv u n)=.cv u n:=by rw [fz]
theorem DZ {a c d:Nat} {b:Hd}:fz k H sz rs (.ml a b c d)=.ml a b c d:=by rw [fz]
theorem Gi {a b c:Nat}:fz k H sz rs (.p a b c)=.p a b c:=by rw [fz]
theorem Gj {a c d e:Nat} {b:Hd}:fz k H sz rs (.e a b c d e)=.e a b c d e:=by rw [fz]
theorem Bm {l:List AV}:fz k H sz rs (.agg l)=.agg (fzL k H sz rs l):=by rw [fz]
theorem Bi {l:List AV}:fz k H sz rs (.tup l)=.tup (fzL k H sz rs l):=by rw [fz]
theorem Bk {f:Nat} {l:List AV}:fz k H sz rs (.clo f l)=.clo f (fzL k H sz rs l):=by rw [fz]
theorem DW {k' sz' off len:Nat} {H':Hd}:fz k H sz rs (.sl k' H' sz' off len)=if k'=k then (if H'=H/\sz'=sz/\off+len<=rs.length then .ro (cut rs off len) else .any) else .sl k' H' sz' off len:=by rw [fz]
end rules
attribute [simp] ye vT vY yh yg vU vV vW yf vX Gh Bl DV Bj DY DX D0 DZ Gi Gj Bm Bi Bk DW
open Go.RowKit
theorem aV.ent {E:Env} {body:Code} {Q:Exit->ASt->Prop} {st:ASt} (h:Ent E st (aV E body Q)):aV E body Q st:=λa w hR=>by
 obtain ⟨st',h1,h2⟩:=h a w hR;exact h1 a w h2
end Go.AM
namespace Go.Proofs.YthckkpphnmmfdaaGreatDoor
open Go.AM
set_option maxRecDepth 20000
set_option maxHeartbeats 6400000
attribute [local simp] dn cp aF cg ce
theorem gw {α:Type} {f:α->Nat} {a:α}:nL f [a]=f a+1:=by simp [nL,cD];omega
theorem i6 {o:List Part} (h:cr o) (h0:bg o=[]):aE o=[45]:=by unfold aE;rw [if_pos h,if_pos h0]
theorem i7 {o:List Part} (h:cr o) (h0:bg o≠[]):aE o=Lib.join ((bg o).map ah) [32]:=by unfold aE;rw [if_pos h,if_neg h0]
theorem ia (o:List Part) (hl:nL aL o<=2 ^ 40):aW Tryz.prog LT 92 [.c (.s (o.map Part.row))] (.one (.c (vs (aE o)) 1)):=by
 refine aW.intro' aq LT.stay Tryz.func92 (by kernel_rfl) rfl rfl rfl (Nat.le_of_ble_eq_true rfl) (λw0 base hE=>?_);simp;refine aa.pure (fb o hl) (by simp) ?_;by_cases h:cr o
 rotate_left
 ·have e:aE o=[]:=by unfold aE;rw [if_neg h]
  simp [h,e]
 simp [h];refine aa.pure (ib o hl) (by simp) ?_;obtain ⟨h1,h2⟩:=bZ h;have hz:=i6 h;have hs:=i7 h;have hle:=eF o;generalize aE o=T at hz hs hle ⊢;have hsh:=gU (bZ h);generalize bg o=q at h1 hz hs hsh ⊢;have hlen:=h1.1.2;simp;intro H;refine aV.ent (lC 10 160 (by simp;exact ⟨rfl,rfl,rfl,rfl⟩) (by simp;exact ⟨rfl,rfl⟩) (by simp) (Ent.refl ?_));simp
 refine aK hE (λx:Nat×Hd=>x.1<=q.length) (λx=>⟨49,0,[(12,.v (.int .i64 x.1)),(11,.v (.int .i64 q.length)),(10,.ro (q.map Part.row)),(3,.sl 5000 x.2 1 0 x.1)],
  [(5000,.rows x.2 1 (((q.take x.1).map ah).map wR) true)]⟩) (λx=>q.length - x.1) (0,none) (by simp) (by simp) (λx hx=>Ent.refl ?_)
 obtain ⟨i,K⟩:=x;simp only at hx ⊢;by_cases hlt:i<q.length
 rotate_left
 ·have e:i=q.length:=by omega
  subst e;by_cases h0:q=[]
  ·subst h0
   simp [hz rfl]
  ·simp [h0]
   refine ab hE (vE (q.map ah) 32 (by simp;omega) (by rw [<- hs h0];omega)) (by simp) ?_;simp [hs h0]
 have hpt:=hsh q[i] (List.getElem_mem hlt);have hok:=h1.1.1 q[i] (List.getElem_mem hlt);obtain ⟨⟨k,n,s⟩,hp⟩:∃ p,q[i]=p:=⟨_,rfl⟩;have hps:ah q[i]=ah ⟨k,n,s⟩:=by rw [hp]
 rw [hp] at hpt hok;have hb:=hok.bounds;simp only at hb;simp [hlt,hp,Part.row];intro b5;have e1:i=min i q.length:=by omega
 have h10:=bi n;by_cases k1:k=1
 ·have hT:ah q[i]=107::an n:=by rw [hps,k1];simp [ah]
  simp [k1];refine ab hE (aZ n) (by simp) ?_;simp;refine ⟨by omega,λb=>⟨e1,by omega,λH2=>Ent.refl ⟨i+1,by omega,by omega,H2,?_⟩⟩⟩;simp;exact ⟨aB (by omega),by rw [<- hT];exact f3 (f:=wR ∘ ah) hlt⟩
 by_cases k3:k=3
 ·have hT:ah q[i]=100::an n:=by rw [hps,k3];simp [ah]
  simp [k3];refine ab hE (aZ n) (by simp) ?_;simp;refine ⟨by omega,λb=>⟨e1,by omega,λH2=>Ent.refl ⟨i+1,by omega,by omega,H2,?_⟩⟩⟩;simp;exact ⟨aB (by omega),by rw [<- hT];exact f3 (f:=wR ∘ ah) hlt⟩
 have k2:k=2:=by omega
 have hT:ah q[i]=112::cz s:=by rw [hps,k2];simp [ah]
 have hsl:=eE s;simp [k2];refine ab hE (ic s (by omega)) (by simp) ?_;simp;refine ⟨by omega,λb=>⟨e1,by omega,λH2=>Ent.refl ⟨i+1,by omega,by omega,H2,?_⟩⟩⟩;simp;exact ⟨aB (by omega),by rw [<- hT];exact f3 (f:=wR ∘ ah) hlt⟩
theorem mJ (s:List UInt8) (hl:s.length<=2 ^ 31):aW Tryz.prog LT 58 [.c (vs s)] (.one (.c (.s ((al 32 s).map wR)) 1)):=by
 refine aW.intro' aq LT.stay Tryz.func58 (by kernel_rfl) rfl rfl rfl (Nat.le_of_ble_eq_true rfl) (λw0 base hE=>?_);simp;refine ab hE (rB s 32 hl) (by simp) ?_;simp
def dJ (s:List UInt8):List UInt8:=s.map λx=>if x=32 then 44 else x
def cJ (s:List UInt8):List UInt8:=s.map λx=>if x=44 then 32 else x
theorem nE (o:List Part) (hl:nL aL o<=2 ^ 40):aW Tryz.prog LT 49 [.c (.s (o.map Part.row))] (.one (.c (vs (dJ (aE o))) 1)):=by
 refine aW.intro' aq LT.stay Tryz.func49 (by kernel_rfl) rfl rfl rfl (Nat.le_of_ble_eq_true rfl) (λw0 base hE=>?_);have hle:=eF o;simp;refine ab hE (ia o hl) (by simp) ?_;simp;refine ab hE (mp (aE o) 32 44 (by decide) (by omega)) (by simp) ?_;simp [dJ]
theorem ny (s:List UInt8) (hl:s.length<=2 ^ 30):aW Tryz.prog LT 98 [.c (vs s)] (.tup [.c (.s ((aY s).1.map Part.row)) 3,.c (.v (.bool (aY s).2)) 1]):=by
 refine aW.intro' aq LT.stay Tryz.func98 (by kernel_rfl) rfl rfl rfl (Nat.le_of_ble_eq_true rfl) (λw0 base hE=>?_);by_cases hs:s=[45]
 ·subst hs
  simp [j4]
 simp [hs];refine ab hE (mJ s (by omega)) (by simp) ?_;simp;intro H;have hI:=λout=>uP (out:=out) hs
 have hN:=iS (f:=cH) (λp h hn=>jV h hn) hs;have hlen:=(bf 32 s).1;have hw:=(bf 32 s).2;have hsum:=gA 32 s;generalize al 32 s=W at hlen hw hsum hI hN ⊢
 refine aK hE (λx:Nat×List Part×Hd=>x.1<=W.length/\x.2.1.length=x.1/\nL aL x.2.1+nu (W.drop x.1)<=s.length+1/\bd cH W=(bd cH (W.drop x.1)).map (x.2.1 ++ ·)) (λx=>⟨65,0,[(14,.v (.int .i64 x.1)),(13,.v (.int .i64 W.length)),(12,.sl 192 H 1 0 W.length),(4,.sl 5000 x.2.2 3 0 x.2.1.length),(3,.v (.bool false)),(2,.nil),(0,.v (.string (bs s)))],
  [(192,.rows H 1 (W.map wR) true),(5000,.rows x.2.2 3 (x.2.1.map Part.row) true)]⟩) (λx=>W.length - x.1) (0,[],none) ⟨by simp,by simp,Nat.le_of_eq (by rw [List.drop_zero,hsum];exact Nat.zero_add _),by simp⟩ (by simp) (λx hi=>Ent.refl ?_)
 obtain ⟨i,out,K⟩:=x;obtain ⟨h1,h2,h3,h4⟩:=hi;simp only at h1 h2 h3 h4 ⊢;by_cases hlt:i<W.length
 rotate_left
 ·have e:i=W.length:=by omega
  have hm:bd cH W=some out:=by rw [h4,List.drop_of_length_le (by omega)];simp [bd]
  obtain ⟨y1,y2⟩:=hI out hm;simp [hlt];refine aa.pure (fb out (by omega)) (by simp) ?_;by_cases ho:cr out
  rotate_left
  ·simp [ho,y2 (λh=>ho h.1)]
  simp [ho];refine ab hE (ia out (by omega)) (by simp) ?_;by_cases ht:aE out=s
  rotate_left
  ·simp [ht,y2 (λh=>ht h.2)]
  simp [ht,y1 ⟨ho,ht⟩];refine aa.pure (ib out (by omega)) (by simp) ?_;simp
 have hst:bd cH W=(cH W[i]).bind λy=>(bd cH (W.drop (i+1))).map λr=>out++(y::r):=by
  rw [h4,f8 hlt]
  cases cH W[i]<;>simp [Function.comp_def]
 have hx:=hw W[i] (List.getElem_mem hlt);have hld:=mE hlt;obtain ⟨w,hwi⟩:∃ w,W[i]=w:=⟨_,rfl⟩;rw [hwi] at hst hx hld;simp [hlt,wR,hwi]
 cases w with
 | nil =>
   have hr:bd cH W=none:=by rw [hst];rfl
   simp [hN hr]
 | cons c y =>
   have hext:(bs (c::y)).extract 1 (y.length+1)=bs y:=by rw [lg];simp
   have hget:∀ h,(bs (c::y))[0]'h=c:=λh=>by rw [n7];rfl
   simp only [List.length_cons] at hx hld;simp [hext];refine ab hE (eH y (by omega)) (by simp) ?_
   cases hrd:bC y with
   | none =>
     have hr:bd cH W=none:=by rw [hst];simp [cH,hrd]
     simp [eV,hN hr]
   | some l =>
     have hl0:=oJ hrd;have hl1:=kg hrd;simp [eV];intro H1;by_cases k1:c=107
     ·have k1':(c.toNat:Int)=107:=by rw [k1];rfl
      have hwd:cH (c::y)=some ⟨1,l[0],[]⟩:=by simp [cH,hrd,k1,hl0]
      simp [hget,k1',hl0];intro b;refine ⟨by omega,λH2=>Ent.refl ⟨i+1,out++[⟨1,l[0],[]⟩],⟨by omega,by simp;omega,?_,?_⟩,by omega,H2,?_⟩⟩
      ·rw [dt,gw]
       simp only [aL,List.length_nil];omega
      ·rw [hst,hwd];simp
      ·simp [Part.row]
       exact aB (by omega)
     have k1':¬ (c.toNat:Int)=107:=λh=>k1 (UInt8.toNat_inj.1 (by simpa using Int.ofNat.inj h))
     by_cases k2:c=100
     ·have k2':(c.toNat:Int)=100:=by rw [k2];rfl
      have hwd:cH (c::y)=some ⟨3,l[0],[]⟩:=by simp [cH,hrd,k2,hl0]
      simp [hget,k2',hl0];intro b;refine ⟨by omega,λH2=>Ent.refl ⟨i+1,out++[⟨3,l[0],[]⟩],⟨by omega,by simp;omega,?_,?_⟩,by omega,H2,?_⟩⟩
      ·rw [dt,gw]
       simp only [aL,List.length_nil];omega
      ·rw [hst,hwd];simp
      ·simp [Part.row]
       exact aB (by omega)
     have k2':¬ (c.toNat:Int)=100:=λh=>k2 (UInt8.toNat_inj.1 (by simpa using Int.ofNat.inj h))
     have hwd:cH (c::y)=some ⟨2,0,l⟩:=by simp [cH,hrd,k1,k2]
     simp [hget,k1',k2'];intro b;refine ⟨by omega,λH2=>Ent.refl ⟨i+1,out++[⟨2,0,l⟩],⟨by omega,by simp;omega,?_,?_⟩,by omega,H2,?_⟩⟩
     ·rw [dt,gw]
      simp only [aL];omega
     ·rw [hst,hwd];simp
     ·simp [Part.row]
      exact aB (by omega)
end Go.Proofs.YthckkpphnmmfdaaGreatDoor
