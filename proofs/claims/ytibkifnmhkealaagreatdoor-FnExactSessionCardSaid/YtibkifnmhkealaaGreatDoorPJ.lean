import Derived.Test.YtibkifnmhkealaaGreatDoorPF
import Derived.Test.YtibkifnmhkealaaGreatDoorPI
import Derived.Lib.AtoiAllCases
import Derived.Lib.AppendIntMem
import Derived.WalkKit
import Derived.BigCall
import Derived.Test.YtibkifnmhkealaaGreatDoorMF
namespace Go.Proofs.YtibkifnmhkealaaGreatDoor
open Go.AM
set_option maxRecDepth 20000
def chn (L:List Part):Prop:=∀ i,∀ h:i+1<L.length,L[i].kind≠L[i+1].kind
theorem GE:chn []:=λi h=>by simp at h
theorem KO {p:Part} {L:List Part} (h:chn (p::L)):chn L/\∀ h0:0<L.length,p.kind≠L[0].kind:=by
 refine ⟨λi hi=>?_,λh0=>?_⟩
 ·have:=h (i+1) (by simp;omega)
  simpa using this
 ·have:=h 0 (by simp;omega)
  simpa using this
theorem pj {L:List Part} {p:Part} (h:chn L) (hp:∀ h:0<L.length,(L[L.length - 1]'(by omega)).kind≠p.kind):chn (L++[p]):=by
 intro i hi;simp at hi;by_cases c:i+1<L.length
 ·rw [List.getElem_append_left (by omega),List.getElem_append_left c];exact h i c
 ·have h0:0<L.length:=by omega
  have:=hp h0;rw [List.getElem_append_left (by omega),List.getElem_append_right (by omega)];have e:i=L.length - 1:=by omega
  subst e
  simpa using this
theorem MJ {L:List Part} {i:Nat} {p:Part} (h:chn L) (hi:i<L.length) (hk:p.kind=L[i].kind):chn (L.set i p):=by
 intro j hj;simp at hj;have h1:=h j hj;rw [List.getElem_set,List.getElem_set]
 split
 ·rename_i e;subst e
  rw [if_neg (by omega),hk];exact h1
 ·split
  ·rename_i e;subst e;rw [hk];exact h1
  ·exact h1
def Kc (L:List Part):Prop:=∀ h:0<L.length,(L[L.length - 1]'(by omega)).kind=1
theorem xi {L:List Part} {p:Part}:(((L++[p])[(L++[p]).length - 1]'(by simp))).kind=p.kind:=by simp
theorem Am {L:List Part} {P:List Int} {D:Int} (h:chn L) (hl:Kc L):chn (aD L P D):=by
 unfold aD
 split
 ·split
  ·rw [List.nil_append]
   exact pj h λh0=>by rw [hl h0];simp
  ·simpa using h
 ·have h1:chn (L++[⟨2,0,P⟩]):=pj h λh0=>by rw [hl h0];simp
  split
  ·rw [<- List.append_assoc]
   exact pj h1 λh0=>by rw [xi];simp
  ·simpa using h1
theorem Kh {L:List Part} {n:Int} (h:chn L):chn (bO L n)/\Kc (bO L n):=by
 unfold bO
 split
 ·rename_i h0
  split
  ·rename_i hk
   refine ⟨MJ h (by omega) hk.symm,λh1=>?_⟩;simp
  ·rename_i hk
   refine ⟨pj h λ_=>hk,λh1=>?_⟩;rw [xi]
 ·exact ⟨pj (L:=[]) GE (λh=>by simp at h),λ_=>rfl⟩
theorem z7 (o:List Part):∀ (i:Nat),i<=o.length->chn (aP (o.take i)).1/\Kc (aP (o.take i)).1
 | 0, _ => by
   simp only [aP,List.take_zero,List.foldl_nil];exact ⟨GE,λh=>by simp at h⟩
 | i + 1, hi => by
   obtain ⟨h1,h2⟩:=z7 o i (by omega);rw [iP (show i<o.length by omega)];generalize aP (o.take i)=s at h1 h2;unfold cM
   split
   ·exact ⟨h1,h2⟩
   ·split
    ·exact ⟨h1,h2⟩
    ·split
     ·exact Kh (Am h1 h2)
     ·exact ⟨h1,h2⟩
theorem EX (o:List Part):chn (normal o):=by
 obtain ⟨h1,h2⟩:=z7 o o.length (Nat.le_refl _);rw [List.take_length] at h1 h2;exact Am h1 h2
def zc:At->List Part->List Part
 | .k,[]=>[⟨1,1,[]⟩]
 | .k,p::l=>if p.kind=1 then ⟨1,p.n+1,[]⟩::l else ⟨1,1,[]⟩::p::l
 | .d,[]=>[⟨3,1,[]⟩]
 | .d,p::l=>if p.kind=3 then ⟨3,p.n+1,[]⟩::l else ⟨3,1,[]⟩::p::l
 | .p c,[]=>[⟨2,0,[c]⟩]
 | .p c,p::l=>if p.kind=2 then ⟨2,0,c::p.signs⟩::l else ⟨2,0,[c]⟩::p::l
def grp (l:List At):List Part:=l.foldr zc []
theorem Ku {L:List Part} (h:∀ h0:0<L.length,L[0].kind≠1):∀ n:Nat,(List.replicate (n+1) At.k).foldr zc L=⟨1,(n:Int)+1,[]⟩::L
 | 0 => by
   cases L with
   |nil=>rfl
   |cons p l=>have:=h (by simp);simp at this;simp [zc,this]
 | n + 1 => by
   rw [List.replicate_succ,List.foldr_cons,Ku h n];simp [zc]
theorem Kv {L:List Part} (h:∀ h0:0<L.length,L[0].kind≠3):∀ n:Nat,(List.replicate (n+1) At.d).foldr zc L=⟨3,(n:Int)+1,[]⟩::L
 | 0 => by
   cases L with
   |nil=>rfl
   |cons p l=>have:=h (by simp);simp at this;simp [zc,this]
 | n + 1 => by
   rw [List.replicate_succ,List.foldr_cons,Kv h n];simp [zc]
theorem Kt {L:List Part} (h:∀ h0:0<L.length,L[0].kind≠2):∀ (Q:List Int) (c:Int),((c::Q).map At.p).foldr zc L=⟨2,0,c::Q⟩::L
 | [], c => by
   cases L with
   |nil=>rfl
   |cons p l=>have:=h (by simp);simp at this;simp [zc,this]
 | d :: Q, c => by
   rw [List.map_cons,List.foldr_cons,Kt h Q d];simp [zc]
theorem Al:∀ {L:List Part},(∀ q∈L,Shp q)->chn L->grp (bm L)=L
 | [],_,_=>rfl
 | p :: L, hs, hc => by
   obtain ⟨h1,h2⟩:=KO hc;have ih:=Al (λq hq=>hs q (List.mem_cons_of_mem _ hq)) h1;have hp:=hs p (List.mem_cons_self ..);unfold grp at ih ⊢;rw [bm,List.foldr_append,ih];have hpos:=hp.pos;have hn:=hp.n;unfold ats;obtain ⟨kd,n,sg⟩:=p;by_cases k2:kd=2
   ·subst k2
    obtain ⟨e1,-⟩:=hp.put rfl;simp only at e1;subst e1;simp only [if_true]
    cases sg with
    |nil=>simp [psz] at hpos
    |cons c Q=>exact Kt (λh0=>by have:=h2 h0;simpa using this.symm) Q c
   ·have e1:=hp.run k2
    simp only at e1 hn;subst e1;have hz:psz ⟨kd,n,[]⟩=n.toNat:=by simp [psz]
    rw [hz] at hpos;obtain ⟨m,hm⟩:∃ m,n.toNat=m+1:=⟨n.toNat - 1,by omega⟩;have hnm:n=(m:Int)+1:=by omega
    rw [hz,hm,if_neg k2];by_cases k3:kd=3
    ·subst k3
     simp only [if_true];rw [Kv (λh0=>by have:=h2 h0;simpa using this.symm),hnm]
    ·have k1:kd=1:=by rcases hp.k with h|h|h<;>simp only at h<;>omega
     subst k1;rw [if_neg (by simp),Ku (λh0=>by have:=h2 h0;simpa using this.symm),hnm]
theorem Di:∀ (l:List At) (P:List Int) (n:Nat),nA [] 0 (nA P n l)=nA P n l
 | [], P, n => by
   have h2:=Gm n P 0 [];rw [List.append_nil,Nat.zero_add] at h2;rw [nA,Gk,List.nil_append,h2,nA]
 | .k :: l, P, n => by
   rw [nA,Gk,Gm,List.nil_append,Nat.zero_add,nA,Di l]
 | .p c::l,P,n=>by rw [nA,Di l]
 | .d::l,P,n=>by rw [nA,Di l]
theorem m7 {o:List Part} (h:∀ p∈o,ar p):normal o=grp (nU (bm o)):=by
 rw [<- jB h,Al (rc h) (EX o)]
theorem yR {o:List Part} (h:aR o):normal (normal o)=normal o:=by
 have h2:=(mq h).1;rw [m7 h2.1.1,jB h.1.1,m7 h.1.1];unfold nU;rw [Di]
theorem yU {o:List Part} (h:aR o):aZ (normal o):=by
 have h2:=(mq h).1;refine ⟨h2,?_⟩;unfold bn;rw [if_pos h2,yR h]
theorem eK {o:List Part} (h:aR o):aZ (bn o):=by
 have e:bn o=normal o:=by unfold bn;rw [if_pos h]
 rw [e];exact yU h
theorem wW:∀ (l:List (List Part)) (v v':List Part),aZ v->kl l v=some v'->aZ v'
 | [],v,v',h,e=>by simp only [kl,Option.some.injEq] at e;exact e ▸ h
 | a :: l, v, v', h, e => by
   rw [kl] at e
   split at e
   ·rename_i ht
    refine wW l _ v' ?_ e;unfold ap at ht ⊢
    split at ht
    ·rename_i h1
     split at ht
     ·rename_i h2
      rw [if_pos h1,if_pos h2];have hi:=vF h1.1 h1.2.1 h1.2.2;have hk:=Nf hi;simp only;refine ⟨h2.2,?_⟩;unfold bn;rw [if_pos h2.2,m7 h2.2.1.1,jB hk.2];unfold nU;rw [Di];exact (m7 hk.2).symm
     ·simp at ht
    ·simp at ht
   ·cases e
theorem Fp {l:List (List Part)} {b:List Part} (h:(iS l b).2=true):aZ (iS l b).1:=by
 unfold iS at h ⊢
 split at h
 ·rename_i hb
  rw [if_pos hb]
  cases e:kl l (bn b) with
  |none=>rw [e] at h;simp at h
  |some v=>exact wW l _ v (eK hb) e
 ·simp at h
def gd (x:UInt8):Prop:=48<=x.toNat/\x.toNat<=57
def kr (a:Nat) (l:List UInt8):Nat:=l.foldl (λa x=>a*10+(x.toNat - 48)) a
def mc (l:List UInt8):Nat:=kr 0 l
theorem Aw (l:List UInt8) (x:UInt8):mc (l++[x])=mc l*10+(x.toNat - 48):=by simp [mc,kr]
theorem vP {m:Nat} (h:m<10):(UInt8.ofNat (48+m)).toNat=48+m:=by simp;omega
theorem BY:∀ m:Nat,∀ x∈Lib.decDigits m,gd x:=by
 intro m
 induction m using Nat.strongRecOn with
 | ind m ih =>
   intro x hx;by_cases h:m<10
   ·rw [nw h] at hx
    rw [List.mem_singleton.1 hx];unfold gd;rw [vP h];omega
   ·rw [mE h] at hx
    rcases List.mem_append.1 hx with hx|hx
    ·exact ih (m / 10) (by omega) x hx
    ·rw [List.mem_singleton.1 hx]
     have h2:m % 10<10:=Nat.mod_lt _ (by omega);unfold gd;rw [vP h2];omega
theorem pb:∀ m:Nat,mc (Lib.decDigits m)=m:=by
 intro m
 induction m using Nat.strongRecOn with
 | ind m ih =>
   by_cases h:m<10
   ·rw [nw h]
    show 0*10+((UInt8.ofNat (48+m)).toNat - 48)=m
    rw [vP h];omega
   ·rw [mE h,Aw,ih (m / 10) (by omega),vP (Nat.mod_lt _ (by omega))]
    omega
theorem xR:∀ (k m:Nat),m<10 ^ (k+1)->(Lib.decDigits m).length<=k+1:=by
 intro k
 induction k with
 |zero=>intro m h;rw [nw (by omega)];simp
 | succ k ih =>
   intro m h;by_cases h9:m<10
   ·rw [nw h9];simp
   ·rw [mE h9]
    have:=ih (m / 10) (by rw [Nat.pow_succ] at h;omega);simp;omega
theorem BX (m:Nat):Lib.decDigits m≠[]:=by
 by_cases h:m<10
 ·rw [nw h];simp
 ·rw [mE h];simp
theorem jZ {n:Int} (h:0<=n/\n<=1000000000):ao n=Lib.decDigits n.toNat:=by unfold ao;rw [if_pos h]
theorem uH (n:Int):∀ x∈ao n,gd x:=by
 unfold ao
 split
 ·exact BY _
 ·simp
theorem kX (n:Int) {c:UInt8} (hc:¬ gd c):c ∉ ao n:=λh=>hc (uH n c h)
open Classical in
noncomputable def aA (l:List UInt8):Int×Bool:=if ∃ m:Nat,m<=1000000000/\Lib.decDigits m=l then ((mc l:Int),true) else (0,false)
theorem cj {n:Int} (h:0<=n/\n<=1000000000):aA (ao n)=(n,true):=by
 rw [jZ h];unfold aA;rw [if_pos ⟨n.toNat,by omega,rfl⟩,pb]
 congr 1
 omega
theorem uq {l:List UInt8} (h:(aA l).2=true):(0<=(aA l).1/\(aA l).1<=1000000000)/\ao (aA l).1=l:=by
 unfold aA at h ⊢;by_cases hm:∃ m:Nat,m<=1000000000/\Lib.decDigits m=l
 ·rw [if_pos hm]
  obtain ⟨m,h1,rfl⟩:=hm;rw [pb];refine ⟨by omega,?_⟩;rw [jZ (by omega),Int.toNat_natCast]
 ·rw [if_neg hm] at h
  cases h
theorem kS {l:List UInt8} (h:∀ m:Nat,m<=1000000000->Lib.decDigits m≠l):aA l=(0,false):=by
 unfold aA;rw [if_neg]
 rintro ⟨m,h1,h2⟩
 exact h m h1 h2
theorem Cy {l:List UInt8} {x:UInt8} (hx:x∈l) (hd:¬ gd x):aA l=(0,false):=kS λm _ e=>hd (BY m x (by rw [e];exact hx))
theorem ur {l:List UInt8} (h:l.length=0\/10<l.length):aA l=(0,false):=kS λm hm e=>by
 subst e;rcases h with h|h
 ·exact BX m (List.length_eq_zero_iff.1 h)
 ·have:=xR 9 m (by omega);omega
theorem wg {l:List UInt8} {v:Int} (h:ao v=l) (hl:l≠[]):aA l=(v,true):=by
 by_cases hv:0<=v/\v<=1000000000
 ·rw [<- h,cj hv]
 ·unfold ao at h;rw [if_neg hv] at h;exact absurd h.symm hl
theorem yx {l:List UInt8} (hl:l≠[]):(ao (mc l)=l->aA l=((mc l:Int),true))/\(¬ ao (mc l)=l->aA l=(0,false)):=
 ⟨λh=>wg h hl,λh=>kS λm hm e=>h (by subst e;rw [pb,jZ (by omega),Int.toNat_natCast])⟩
theorem zU:∀ (l:List UInt8) (a:Nat),(∀ x∈l,gd x)->kr a l<=100000000000->Lib.parseUint10 a l=.ok (kr a l)
 | [],a,_,_=>by simp [Lib.parseUint10,kr]
 | x :: l, a, h, hb => by
   have hx:48<=x.toNat/\x.toNat<=57:=h x (by simp);have e:kr a (x::l)=kr (a*10+(x.toNat - 48)) l:=by simp [kr]
   rw [e] at hb ⊢
   have hge:∀ (l:List UInt8) (a:Nat),a<=kr a l:=by
    intro l
    induction l with
    |nil=>intro a;simp [kr]
    |cons y l ih=>intro a;have:=ih (a*10+(y.toNat - 48));simp only [kr,List.foldl_cons] at this ⊢;omega
   have:=hge l (a*10+(x.toNat - 48));unfold Lib.parseUint10;rw [if_pos hx,if_neg (by omega),if_neg (by omega)];exact zU l _ (λy hy=>h y (by simp [hy])) hb
theorem Eb {m:Nat} (h:m<=1000000000):Lib.atoiAll (Lib.decDigits m)=.ok (m:Int):=by
 have hd:=BY m
 have hp:Lib.parseMag (Lib.decDigits m)=.ok m:=by
  unfold Lib.parseMag;rw [if_neg (BX m)];have e:=pb m;unfold mc at e;rw [zU _ 0 hd (by rw [e];omega),e]
 cases hl:Lib.decDigits m with
 |nil=>exact absurd hl (BX m)
 | cons c r =>
   rw [hl] at hp hd;have hc:=hd c (by simp);unfold gd at hc;rw [Lib.atoiAll_plain c r (by omega) (by omega),hp];unfold Lib.signless;simp;omega
theorem AZ {l:List UInt8} {v:Int} (h:Lib.atoiAll l=.ok v):(ao v=l->aA l=(v,true))/\(¬ ao v=l->aA l=(0,false)):=by
 refine ⟨λe=>wg e (λe=>by subst e;cases h),λe=>kS λm hm h2=>?_⟩;subst h2;rw [Eb hm] at h
 cases h
 exact e (by rw [jZ (by omega),Int.toNat_natCast])
theorem rE {l:List UInt8} (h:∀ v,Lib.atoiAll l≠.ok v):aA l=(0,false):=kS λm hm e=>h m (by rw [<- e,Eb hm])
def dr {α β:Type} (f:α->Option β):List α->Option (List β)
 | []=>some []
 | x :: l => match f x with
   |none=>none
   |some y=>(dr f l).map (y :: ·)
theorem pL {α β:Type} {f:α->Option β} {W:List α} {i:Nat} (h:i<W.length):dr f (W.drop i)=(f W[i]).bind λy=>(dr f (W.drop (i+1))).map (y :: ·):=by
 rw [List.drop_eq_getElem_cons h,dr]
 cases f W[i]<;>rfl
theorem mr {α β:Type} {f:α->Option β}:∀ {W:List α} {l:List β},dr f W=some l->W.length=l.length/\∀ i,∀ h:i<W.length,∀ h':i<l.length,f W[i]=some l[i]
 | [],l,h=>by simp [dr] at h;subst h;simp
 | x :: W, l, h => by
   unfold dr at h
   cases hx:f x with
   |none=>rw [hx] at h;cases h
   | some y =>
     rw [hx] at h
     cases hW:dr f W with
     |none=>rw [hW] at h;cases h
     | some r =>
       rw [hW] at h
       cases h
       obtain ⟨h1,h2⟩:=mr hW;refine ⟨by simp [h1],λi hi hi'=>?_⟩
       cases i with
       |zero=>simpa using hx
       |succ i=>simpa using h2 i (by simpa using hi) (by simpa using hi')
theorem oL {α β:Type} {f:α->Option β} {g:β->α}:∀ {l:List β},(∀ y∈l,f (g y)=some y)->dr f (l.map g)=some l
 | [],_=>rfl
 | y :: l, h => by
   rw [List.map_cons,dr,h y (by simp),oL (λz hz=>h z (by simp [hz]))];rfl
def gG (l:List Int):List UInt8:=Lib.join (l.map ao) [46]
open Classical in
noncomputable def bP (l:List Int):List UInt8:=if cc l then (if l=[] then [45] else gG l) else []
open Classical in
noncomputable def fO (x:List UInt8):Option Int:=if (aA x).2=true then some (aA x).1 else none
open Classical in
noncomputable def eX (x:List UInt8):Option Int:=if (aA x).2=true/\ia (aA x).1 then some (aA x).1 else none
noncomputable def er (s:List UInt8):Option (List Int):=dr fO (aw 46 s)
noncomputable def cz (s:List UInt8):Option (List Int):=if s=[45] then some [] else dr eX (aw 46 s)
def mY {α:Type}:Option (List α)->List α×Bool
 |some l=>(l,true)
 |none=>([],false)
noncomputable def bZ (s:List UInt8):List Int×Bool:=mY (cz s)
theorem Uq (n:Int):(46:UInt8) ∉ ao n:=kX n (by unfold gd;decide)
theorem O9 (n:Int):(32:UInt8) ∉ ao n:=kX n (by unfold gd;decide)
theorem jQ {l:List Int} (h:l≠[]):aw 46 (gG l)=l.map ao:=jR 46 _ (by simpa using h) (λw hw=>by
 obtain ⟨n,-,rfl⟩:=List.mem_map.1 hw;exact Uq n)
theorem mW {n:Int} (h:ia n):0<=n/\n<=1000000000:=by unfold ia at h;omega
theorem r8 {l:List Int} (h:∀ n∈l,0<=n/\n<=1000000000) (hl:l≠[]):er (gG l)=some l:=by
 unfold er;rw [jQ hl,oL λn hn=>by unfold fO;rw [cj (h n hn)];simp]
theorem CO {l:List Int} (hl:l≠[]):gG l≠[45]:=λe=>by
 have h:=jQ hl;rw [e] at h
 cases l with
 |nil=>exact hl rfl
 | cons n l =>
   have h1:aw 46 [45]=[[45]]:=by decide
   rw [h1] at h;simp at h;have:=uH n 45 (by rw [<- h.1];simp);unfold gd at this;exact absurd this (by decide)
theorem qe {l:List Int} (h:cc l):bZ (bP l)=(l,true):=by
 unfold bZ bP cz;rw [if_pos h];by_cases hl:l=[]
 ·rw [if_pos hl,if_pos rfl,hl]
  rfl
 ·rw [if_neg hl,if_neg (CO hl),jQ hl,oL λn hn=>by
   unfold eX;rw [cj (mW (h n hn)),if_pos ⟨rfl,h n hn⟩]]
  rfl
theorem J6 {W:List (List UInt8)} {l:List Int} {f:List UInt8->Option Int} (hf:∀ x y,f x=some y->(aA x).2=true/\y=(aA x).1) (h:dr f W=some l):l.map ao=W:=by
 obtain ⟨h1,h2⟩:=mr h
 apply List.ext_getElem
 ·simp [h1]
 ·intro i hi hi'
  have:=hf _ _ (h2 i hi' (by simpa using hi));simp only [List.getElem_map];rw [this.2];exact (uq this.1).2
theorem oA {x:List UInt8} {y:Int} (h:eX x=some y):(aA x).2=true/\y=(aA x).1/\ia y:=by
 unfold eX at h
 split at h
 ·rename_i hc;have e:=Option.some.inj h;rw [<- e];exact ⟨hc.1,rfl,hc.2⟩
 ·exact absurd h (by simp)
theorem wc {s:List UInt8} {l:List Int} (h:cz s=some l):cc l/\bP l=s:=by
 unfold cz at h;by_cases hs:s=[45]
 ·rw [if_pos hs] at h
  cases h
  have h0:cc []:=λn hn=>absurd hn List.not_mem_nil
  refine ⟨h0,?_⟩;unfold bP;rw [if_pos h0,if_pos rfl,hs]
 ·rw [if_neg hs] at h
  have hW:=J6 (λx y hxy=>⟨(oA hxy).1,(oA hxy).2.1⟩) h
  have hok:cc l:=λn hn=>by
   obtain ⟨h1,h2⟩:=mr h;obtain ⟨i,hi,rfl⟩:=List.getElem_of_mem hn;exact (oA (h2 i (by omega) hi)).2.2
  have hl:l≠[]:=λe=>fG 46 s (by rw [<- hW,e];rfl)
  refine ⟨hok,?_⟩;unfold bP;rw [if_pos hok,if_neg hl];unfold gG;rw [hW,xn]
def aC (p:Part):List UInt8:=if p.kind=1 then 107::ao p.n else if p.kind=2 then 112::gG p.signs else 100::ao p.n
open Classical in
noncomputable def ba (o:List Part):List UInt8:=if aR o then (if bn o=[] then [45] else Lib.join ((bn o).map aC) [32]) else []
noncomputable def fF (x:List UInt8):Option Part:=match x with
 | []=>none
 |c::y=>if y=[] then none else if c=112 then (cz y).map (λl=>⟨2,0,l⟩) else (fO y).map λn=>⟨if c=107 then 1 else if c=100 then 3 else 0,n,[]⟩
noncomputable def hQ (x:List UInt8):Option Part:=match x with
 | []=>none
 |c::y=>(er y).map λl=>if c=107 then ⟨1,l.getD 0 0,[]⟩ else if c=100 then ⟨3,l.getD 0 0,[]⟩ else ⟨2,0,l⟩
theorem xe {α β:Type} {f:α->Option β} {W:List α} {l:List β} (h:dr f W=some l):l.length=W.length:=(mr h).1.symm
theorem CZ {y:List UInt8} {l:List Int} (h:er y=some l):0<l.length:=by
 have:=xe h;have:=fG 46 y;have:0<(aw 46 y).length:=List.length_pos_iff.2 this;omega
theorem Dj {α β:Type} {f g:α->Option β} {P:β->Prop} (p1:∀ x y,f x=some y->P y->g x=some y) (p2:∀ x y,f x=some y->¬ P y->g x=none) (p3:∀ x,f x=none->g x=none) :
 ∀ W:List α,(∀ l,dr f W=some l->(∀ y∈l,P y)->dr g W=some l)/\(∀ l,dr f W=some l->¬ (∀ y∈l,P y)->dr g W=none)/\(dr f W=none->dr g W=none)
 | [] => by
   refine ⟨λl h _=>by simpa only [dr] using h,λl h hn=>?_,λh=>by simp [dr] at h⟩;simp only [dr,Option.some.injEq] at h;subst h;exact absurd (λy hy=>absurd hy List.not_mem_nil) hn
 | x :: W => by
   obtain ⟨h1,h2,h3⟩:=Dj p1 p2 p3 W
   cases e:f x with
   |none=>simp [dr,e,p3 x e]
   | some y =>
     by_cases hs:P y
     ·simp only [dr,e,p1 x y e hs]
      cases hW:dr f W with
      | none =>
        rw [h3 hW];refine ⟨λl h=>by simp at h,λl h=>by simp at h,λ_=>rfl⟩
      | some r =>
        refine ⟨λl h ho=>?_,λl h hn=>?_,λh=>by simp at h⟩
        ·simp only [Option.map_some,Option.some.injEq] at h
         subst h;rw [h1 r hW (λn hn=>ho n (by simp [hn]))];rfl
        ·simp only [Option.map_some,Option.some.injEq] at h
         subst h;rw [h2 r hW (λhr=>hn λn hm=>(List.mem_cons.1 hm).elim (λe=>e ▸ hs) (λhm=>hr n hm))];rfl
     ·simp only [dr,e,p2 x y e hs]
      refine ⟨λl h ho=>?_,λl h hn=>True.intro,λh=>True.intro⟩
      cases hW:dr f W with
      |none=>rw [hW] at h;simp at h
      | some r =>
        rw [hW] at h;simp only [Option.map_some,Option.some.injEq] at h;subst h;exact absurd (ho y (List.mem_cons_self ..)) hs
theorem w7 {x:List UInt8} {y:Int} (h:fO x=some y):(aA x).2=true/\y=(aA x).1:=by
 unfold fO at h
 split at h
 ·rename_i hc;exact ⟨hc,(Option.some.inj h).symm⟩
 ·exact absurd h (by simp)
theorem ET {x:List UInt8} (h:fO x=none):¬ (aA x).2=true:=λhc=>by
 unfold fO at h;rw [if_pos hc] at h;exact absurd h (by simp)
theorem Hr (W:List (List UInt8)):(∀ l,dr fO W=some l->cc l->dr eX W=some l)/\(∀ l,dr fO W=some l->¬ cc l->dr eX W=none)/\(dr fO W=none->dr eX W=none):=
 Dj (P:=ia) (λx y h hp=>by
  obtain ⟨h1,h2⟩:=w7 h;rw [h2] at hp ⊢;unfold eX;rw [if_pos ⟨h1,hp⟩]) (λx y h hp=>by
  obtain ⟨h1,h2⟩:=w7 h;rw [h2] at hp;unfold eX;rw [if_neg λh=>hp h.2]) (λx h=>by
  unfold eX;rw [if_neg λhc=>ET h hc.1]) W
theorem yw {s:List UInt8} (hs:s≠[45]):(∀ l,er s=some l->cc l->bZ s=(l,true))/\(∀ l,er s=some l->¬ cc l->bZ s=([],false))/\(er s=none->bZ s=([],false)):=by
 obtain ⟨h1,h2,h3⟩:=Hr (aw 46 s);unfold er bZ cz;rw [if_neg hs];exact ⟨λl h ho=>by rw [h1 l h ho];rfl,λl h ho=>by rw [h2 l h ho];rfl,λh=>by rw [h3 h];rfl⟩
theorem rD:bZ [45]=([],true):=by unfold bZ cz;rw [if_pos rfl];rfl
theorem se {o:List Part} (h:aZ o):∀ p∈o,Shp p/\p.n<=200:=by
 have e:bn o=normal o:=by unfold bn;rw [if_pos h.1]
 intro p hp;have h1:=h.1.1.1 p hp;refine ⟨?_,h1.bounds.2.2.1⟩;rw [<- h.2,e] at hp;exact rc h.1.1.1 p hp
theorem F4 {p:Part} (h:Shp p) (hn:p.n<=200):0<=p.n/\p.n<=1000000000:=by have:=h.n;omega
theorem vH {p:Part} (h:Shp p) (h2:p.kind=2):p.signs≠[]:=λe=>by
 have:=h.pos;have h0:=(h.put h2).1;unfold psz at this;simp [e,h0] at this
theorem mV {l:List Int} (h:cc l) (hl:l≠[]):bP l=gG l:=by unfold bP;rw [if_pos h,if_neg hl]
theorem wd {l:List Int} (h:cc l) (hl:l≠[]):cz (gG l)=some l:=by
 unfold cz
 rw [if_neg (CO hl), jQ hl, oL λn hn => by
     unfold eX;rw [cj (mW (h n hn)),if_pos ⟨rfl,h n hn⟩]]
theorem ra {n:Int} (h:0<=n/\n<=1000000000):ao n≠[]:=by rw [jZ h];exact BX _
theorem GU {l:List Int} (h:∀ n∈l,0<=n/\n<=1000000000) (hl:l≠[]):gG l≠[]:=λe=>by
 have h':=jQ hl;rw [e] at h'
 cases l with
 |nil=>exact hl rfl
 | cons n l =>
   have h1:aw 46 []=[[]]:=rfl;rw [h1] at h';simp at h';exact ra (h n (by simp)) h'.1
theorem zX {n:Int} (h:0<=n/\n<=1000000000):fO (ao n)=some n:=by unfold fO;rw [cj h];simp
theorem uA {n:Int} (h:0<=n/\n<=1000000000):er (ao n)=some [n]:=by
 have e:ao n=gG [n]:=by unfold gG;rw [List.map_singleton,Lib.join_one]
 rw [e];exact r8 (λm hm=>by rw [List.mem_singleton.1 hm];exact h) (by simp)
theorem mP {p:Part} (h:Shp p) (hn:p.n<=200):fF (aC p)=some p:=by
 obtain ⟨k,n,s⟩:=p;have h0:=F4 h hn;rcases h.k with hk|hk|hk<;>simp only at hk h0<;>subst hk
 ·have hs:s=[]:=h.run (by simp)
  subst hs;simp [aC,fF,ra h0,zX h0]
 ·have hp:=h.put rfl
  simp only at hp;have hs:s≠[]:=vH h rfl;have hn0:n=0:=hp.1;subst hn0;have h1:=GU (λm hm=>mW (hp.2 m hm)) hs;simp [aC,fF,h1,wd hp.2 hs]
 ·have hs:s=[]:=h.run (by simp)
  subst hs;simp [aC,fF,ra h0,zX h0]
theorem vX {p:Part} (h:Shp p) (hn:p.n<=200):hQ (aC p)=some p:=by
 obtain ⟨k,n,s⟩:=p;have h0:=F4 h hn;rcases h.k with hk|hk|hk<;>simp only at hk h0<;>subst hk
 ·have hs:s=[]:=h.run (by simp)
  subst hs;simp [aC,hQ,uA h0]
 ·have hp:=h.put rfl
  simp only at hp;have hs:s≠[]:=vH h rfl;have hn0:n=0:=hp.1;subst hn0;simp [aC,hQ,r8 (λm hm=>mW (hp.2 m hm)) hs]
 ·have hs:s=[]:=h.run (by simp)
  subst hs;simp [aC,hQ,uA h0]
theorem xo {c:UInt8} {sep:UInt8}:∀ {l:List (List UInt8)},c≠sep->(∀ w∈l,c ∉ w)->c ∉ Lib.join l [sep]
 | [],_,_=>by simp [Lib.join_nil]
 | [w],_,h=>by rw [Lib.join_one];exact h w (by simp)
 | w :: v :: r, hc, h => by
   have e:Lib.join (w::v::r) [sep]=w++sep::Lib.join (v::r) [sep]:=by
    rw [Lib.join_cons,Lib.join_cons];simp [Lib.joinTail]
   rw [e];intro hm;rcases List.mem_append.1 hm with hm|hm
   ·exact h w (by simp) hm
   ·rcases List.mem_cons.1 hm with hm|hm
    ·exact hc hm
    ·exact xo (l:=v::r) hc (λu hu=>h u (by simp [hu])) hm
theorem CN {c:UInt8} (hc:¬ gd c) (h46:c≠46) (l:List Int):c ∉ gG l:=xo h46 λw hw=>by
 obtain ⟨n,-,rfl⟩:=List.mem_map.1 hw;exact kX n hc
theorem uC {c:UInt8} (hc:¬ gd c) (h46:c≠46) (h1:c≠107) (h2:c≠112) (h3:c≠100) (p:Part):c ∉ aC p:=by
 unfold aC
 split
 ·simp [h1,kX p.n hc]
 ·split
  ·simp [h2,CN hc h46]
  ·simp [h3,kX p.n hc]
theorem OV (p:Part):(32:UInt8) ∉ aC p:=uC (by unfold gd;decide) (by decide) (by decide) (by decide) (by decide) p
theorem OU (p:Part):(44:UInt8) ∉ aC p:=uC (by unfold gd;decide) (by decide) (by decide) (by decide) (by decide) p
theorem LX (p:Part):aC p≠[]:=by unfold aC;(repeat' split)<;>simp
theorem oH {o:List Part} (h:aZ o):ba o=if o=[] then [45] else Lib.join (o.map aC) [32]:=by
 unfold ba;rw [if_pos h.1,h.2]
theorem yQ {o:List Part} (h:aR o):ba (bn o)=ba o:=by
 have h1:=eK h;rw [oH h1];unfold ba;rw [if_pos h]
theorem LY {p:Part} {l:List UInt8}:aC p≠45::l:=by
 unfold aC
 (repeat' split)<;>simp
theorem m4 {o:List Part} (h:aZ o) (ho:o≠[]):ba o≠[45]/\aw 32 (ba o)=o.map aC:=by
 have e:ba o=Lib.join (o.map aC) [32]:=by rw [oH h,if_neg ho]
 have hs:aw 32 (ba o)=o.map aC:=by
  rw [e]
  exact jR 32 _ (by simpa using ho) (λw hw=>by
   obtain ⟨p,-,rfl⟩:=List.mem_map.1 hw;exact OV p)
 refine ⟨λe2=>?_,hs⟩;rw [e2] at hs;have h1:aw 32 [45]=[[45]]:=by decide
 rw [h1] at hs
 cases o with
 |nil=>exact ho rfl
 | cons p o =>
   simp at hs;exact LY hs.1.symm
open Classical in
noncomputable def cf (s:List UInt8):List Part×Bool:=if h:∃ o,aZ o/\ba o=s then (h.choose,true) else ([],false)
theorem m3 {o:List Part} {f:List UInt8->Option Part} (hf:∀ p,Shp p->p.n<=200->f (aC p)=some p) (h:aZ o) (ho:o≠[]):dr f (aw 32 (ba o))=some o:=by
 rw [(m4 h ho).2,oL λp hp=>hf p (se h p hp).1 (se h p hp).2]
theorem f5:aZ []:=by
 have hp:dE []:=⟨by simp,by simp⟩;have:aR []:=⟨hp,by simp [aO,cu,hp,bN],by simp [fp,cu,hp,bN]⟩;refine ⟨this,?_⟩;unfold bn;rw [if_pos this];rfl
theorem m5:ba []=[45]:=by rw [oH f5,if_pos rfl]
theorem EQ {a b:List Part} (ha:aZ a) (hb:aZ b) (h:ba a=ba b):a=b:=by
 by_cases h1:a=[]
 ·subst h1
  by_cases h2:b=[]
  ·exact h2.symm
  ·rw [m5] at h;exact absurd h.symm (m4 hb h2).1
 ·by_cases h2:b=[]
  ·subst h2;rw [m5] at h;exact absurd h (m4 ha h1).1
  ·have e1:=m3 (f:=fF) (λp h hn=>mP h hn) ha h1
   rw [h,m3 (f:=fF) (λp h hn=>mP h hn) hb h2] at e1;exact (Option.some.inj e1).symm
theorem jx {o:List Part} (h:aZ o):cf (ba o)=(o,true):=by
 unfold cf;have hx:∃ o',aZ o'/\ba o'=ba o:=⟨o,h,rfl⟩;rw [dif_pos hx];rw [EQ hx.choose_spec.1 h hx.choose_spec.2]
theorem tu {s:List UInt8} (h:∀ o,aZ o->ba o≠s):cf s=([],false):=by
 unfold cf;rw [dif_neg]
 rintro ⟨o,h1,h2⟩
 exact h o h1 h2
theorem we:cf [45]=([],true):=by
 have:=jx f5
 rwa [m5] at this
theorem iL (s:List UInt8):aZ (cf s).1:=by
 unfold cf
 split
 ·rename_i h;exact h.choose_spec.1
 ·exact f5
theorem vV {s:List UInt8} {o:List Part} {f:List UInt8->Option Part} (hf:∀ p,Shp p->p.n<=200->f (aC p)=some p) (hs:s≠[45]) (h:aZ o) (e:ba o=s):dr f (aw 32 s)=some o:=by
 subst e;refine m3 hf h λe=>hs ?_
 rw [e,m5]
theorem uo {s:List UInt8} {f:List UInt8->Option Part} (hf:∀ p,Shp p->p.n<=200->f (aC p)=some p) (hs:s≠[45]) (h:dr f (aw 32 s)=none):cf s=([],false):=
 tu λo ho e=>by rw [vV hf hs ho e] at h;cases h
theorem Jv {s:List UInt8} {out:List Part} (hs:s≠[45]) (h:dr fF (aw 32 s)=some out):(aZ out/\ba out=s->cf s=(out,true))/\(¬ (aZ out/\ba out=s)->cf s=([],false)):=
 ⟨λ⟨h1,h2⟩=>by rw [<- h2,jx h1],λhn=>tu λo ho e=>hn (by
  rw [vV (λp h hn=>mP h hn) hs ho e] at h
  cases h
  exact ⟨ho,e⟩)⟩
theorem Jw {s:List UInt8} {out:List Part} (hs:s≠[45]) (h:dr hQ (aw 32 s)=some out):(aR out/\ba out=s->cf s=(bn out,true))/\(¬ (aR out/\ba out=s)->cf s=([],false)):=
 ⟨λ⟨h1,h2⟩=>by rw [<- h2,<- yQ h1,jx (eK h1)],λhn=>tu λo ho e=>hn (by
  rw [vV (λp h hn=>vX h hn) hs ho e] at h
  cases h
  exact ⟨ho.1,e⟩)⟩
open Go.AM Go.RowKit
def zD (ev:Value):Prop:=ev=.nilIface\/∃ t p,ev=.iface t p
def IM (w:World):Prop:=(∃ ev,w.cell? ⟨Tryz.laysC172_ren.g 15,0,none⟩=some ev/\zD ev)/\(∃ ev,w.cell? ⟨Tryz.laysC172_ren.g 16,0,none⟩=some ev/\zD ev)
def LT (w:World):Prop:=
 Lib.TabIs Tryz.prog w "internal/strconv.uint64pow10" .u64 Lib.pow10Tab ∧ (∃ m, w.cell? ⟨0, 0, none⟩ = some (.int .i64 m)) ∧ IM w
theorem ud {w w':World} (h:BelowF (λc=>c<w.heap.size) w w') {a:Addr} {v:Value} (hc:w.cell? a=some v):w'.cell? a=some v:=by
 unfold World.cell? at hc ⊢
 cases hb:w.heap[a.block]? with
 |none=>rw [hb] at hc;cases hc
 |some o=>rw [h.block _ (dw hb),hb];rw [hb] at hc;exact hc
theorem IV {P:Program} {w w':World} (h:BelowF (λc=>c<w.heap.size) w w') {n:String} {cs:Array Value} (hc:w.var? P n=some cs):w'.var? P n=some cs:=by
 unfold World.var? at hc ⊢
 cases hg:P.globalNamed n with
 |none=>rw [hg] at hc;cases hc
 | some g =>
   rw [hg] at hc;simp only [Option.bind_some] at hc ⊢
   cases hb:w.heap[g]? with
   |none=>rw [hb] at hc;cases hc
   |some o=>rw [h.block _ (dw hb),hb];rw [hb] at hc;exact hc
theorem IM.stay:LSt IM:=λ_w _w' h ⟨⟨e1,h3,h4⟩,⟨e2,h5,h6⟩⟩=>⟨⟨e1,ud h h3,h4⟩,⟨e2,ud h h5,h6⟩⟩
theorem LT.stay:LSt LT:=λw w' h ⟨h1,⟨m,h2⟩,h3⟩=>⟨IV h h1,⟨m,ud h h2⟩,IM.stay w w' h h3⟩
theorem MQ {xs:Array Value} (h:xs.size=1):∃ a,xs = #[a]:=by
 obtain ⟨l⟩:=xs
 match l,h with
 | [a],_=>exact ⟨a,rfl⟩
theorem PO {xs:Array Value} (h:xs.size=2):∃ a b,xs = #[a,b]:=by
 obtain ⟨l⟩:=xs
 match l,h with
 | [a,b],_=>exact ⟨a,b,rfl⟩
theorem UE {xs:Array Value} (h:xs.size=3):∃ a b c,xs = #[a,b,c]:=by
 obtain ⟨l⟩:=xs
 match l,h with
 | [a,b,c],_=>exact ⟨a,b,c,rfl⟩
theorem Bg {w:World} {v u:Value} (h:RdV w v (.c (.v u))):v=u:=by cases h;rfl
theorem xr (c:UInt8):∀ (a b:List UInt8),c ∉ a->Lib.index (a++c::b) [c]=(a.length:Int)
 | [],b,_=>by simp [Lib.index,List.isPrefixOf]
 | x :: a, b, h => by
   have hx:c≠x:=λe=>h (by simp [e])
   have ih:=xr c a b (λe=>h (by simp [e]));have hp:([c]:List UInt8).isPrefixOf (x::(a++c::b))=false:=by simp [List.isPrefixOf,hx]
   rw [List.cons_append,Lib.index,hp,ih];have hn:¬ (((a.length:Int) == -1)=true):=by rw [beq_iff_eq];omega
   simp only [Bool.false_eq_true,if_false,if_neg hn,List.length_cons];omega
theorem DJ (c:UInt8) (l:List UInt8) (h:c∈l):∃ a b,l=a++c::b/\c ∉ a:=by
 induction l with
 |nil=>simp at h
 | cons x l ih =>
   by_cases hx:x=c
   ·exact ⟨[],l,by simp [hx],by simp⟩
   ·obtain ⟨a,b,h1,h2⟩:=ih (by rcases List.mem_cons.1 h with h|h;exact absurd h.symm hx;exact h)
    exact ⟨x::a,b,by simp [h1],λe=>by rcases List.mem_cons.1 e with e|e;exact hx e.symm;exact h2 e⟩
theorem EB (c:UInt8):∀ (n:Nat) (l:List UInt8),l.length<=n->Lib.splitK [c] 0 (Lib.count l [c]) l=aw c l:=by
 intro n
 induction n with
 | zero =>
   intro l hl;have:l=[]:=List.length_eq_zero_iff.1 (by omega);subst this;rw [Lib.count_one];rfl
 | succ n ih =>
   intro l hl;by_cases hc:c∈l
   ·obtain ⟨a,b,rfl,ha⟩:=DJ c l hc
    have hi:=xr c a b ha;have hd:(a++c::b).drop (a.length+1)=b:=by simp
    rw [Lib.count_hit (by simp) hi,Nat.add_comm,Lib.splitK,hi];have hn:¬ (((a.length:Int) == -1)=true):=by rw [beq_iff_eq];omega
    rw [if_neg hn,mR c a b ha];simp only [Int.toNat_natCast,List.length_singleton,Nat.add_zero,hd];simp at hl;rw [ih b (by omega)];simp
   ·have h0:Lib.count l [c]=0:=by rw [Lib.count_one];exact List.count_eq_zero.2 hc
    rw [h0,pA c l hc];rfl
theorem rH (s:List UInt8) (c:UInt8):Lib.splitB (bs [c]) 0 (Lib.countB (bs s) (bs [c])) (bs s)=(aw c s).map bs:=by
 have h:=Lib.splitB_data (bs [c]) 0 (Lib.countB (bs s) (bs [c])) (bs s);have hc:Lib.countB (bs s) (bs [c])=Lib.count s [c]:=rfl;rw [dv,dv,hc,EB c s.length s (Nat.le_refl _)] at h;rw [<- h,List.map_map,hc]
 conv=>lhs;rw [<- List.map_id (Lib.splitB (bs [c]) 0 (Lib.count s [c]) (bs s))]
 exact List.map_congr_left λx _=>(jN x).symm
theorem Bf (c d:UInt8):∀ (n:Nat) (l:List UInt8),l.length<=n->Lib.replaceK [c] [d] (Lib.count l [c]) l=l.map λx=>if x=c then d else x:=by
 intro n
 induction n with
 | zero =>
   intro l hl;have:l=[]:=List.length_eq_zero_iff.1 (by omega);subst this;rw [Lib.count_one];rfl
 | succ n ih =>
   intro l hl
   have hno:∀ a:List UInt8,c ∉ a->(a.map λx=>if x=c then d else x)=a:=λa ha=>by
    conv=>rhs;rw [<- List.map_id a]
    exact List.map_congr_left λx hx=>by rw [if_neg (λe=>ha (by rw [<- e];exact hx))];rfl
   by_cases hc:c∈l
   ·obtain ⟨a,b,rfl,ha⟩:=DJ c l hc
    have hi:=xr c a b ha;have hd:(a++c::b).drop (a.length+1)=b:=by simp
    rw [Lib.count_hit (by simp) hi,Nat.add_comm,Lib.replaceK_hit _ _ _ _ _ hi];simp at hl;simp only [List.length_singleton,hd,ih b (by omega),List.map_append,List.map_cons,hno a ha];simp
   ·have h0:Lib.count l [c]=0:=by rw [Lib.count_one];exact List.count_eq_zero.2 hc
    rw [h0,hno l hc];rfl
theorem CX (s:List UInt8) (c d:UInt8) (h:c≠d):Lib.replaceAll s [c] [d]=s.map λx=>if x=c then d else x:=by
 unfold Lib.replaceAll Lib.replace;have hn:¬ (([c]:List UInt8) == [d])=true:=by rw [beq_iff_eq];simpa using h
 rw [if_neg hn];exact Bf c d s.length s (Nat.le_refl _)
theorem Pq (n:Int) (h0:0<=n) (h1:n<=9223372036854775807):bY Tryz.prog LT 200 [.c (vi n)] (.one (.c (vs (Lib.itoa n)) 1)):=by
 refine ⟨⟨_,Tryz.func200,by kernel_rfl,by kernel_rfl⟩,λw hL xs hxs hargs=>?_⟩;obtain ⟨a,rfl⟩:=MQ hxs;obtain rfl:=Bg (hargs 0 _ rfl);refine (Any.strconv_Itoa zn n (by omega) h1 w hL.1).mono ?_
 rintro e w' ⟨rfl,k,os,rfl⟩
 exact ⟨_,rfl,Lib.below_grow _ _ (Nat.le_refl _) k os,rfl,rfl⟩
theorem zM (s:List UInt8) (c d:UInt8) (hcd:c≠d) (hl:s.length<=2 ^ 31):bY Tryz.prog LT 185 [.c (vs s),.c (vs [c]),.c (vs [d])] (.one (.c (vs (s.map λx=>if x=c then d else x)) 1)):=by
 refine ⟨⟨_,Tryz.func185,by kernel_rfl,by kernel_rfl⟩,λw hL xs hxs hargs=>?_⟩;obtain ⟨a,b,f,rfl⟩:=UE hxs;obtain rfl:=Bg (hargs 0 _ rfl);obtain rfl:=Bg (hargs 1 _ rfl);obtain rfl:=Bg (hargs 2 _ rfl);obtain ⟨m,hm⟩:=hL.2.1;have hc:=Lib.countB_le (bs [c]) (by rw [aX];simp) (bs s).size (bs s) (Nat.le_refl _);refine (Any.strings_ReplaceAll Ch nG (bs s) (bs [c]) (bs [d]) m w (by rw [aX];omega) hm (by rw [aX];simp) (by rw [aX] at hc ⊢;rw [aX];simp;omega)).mono ?_
 rintro e w' ⟨rfl,hb⟩
 refine ⟨_,rfl,hb,?_,rfl⟩;simp only [dv,CX s c d hcd];rfl
theorem A3 (s:List UInt8) (c:UInt8) (hl:s.length<=2 ^ 31):bY Tryz.prog LT 26 [.c (vs s),.c (vs [c])] (.one (.c (.s ((aw c s).map wR)) 1)):=by
 refine ⟨⟨_,Tryz.func26,by kernel_rfl,by kernel_rfl⟩,λw hL xs hxs hargs=>?_⟩;obtain ⟨a,b,rfl⟩:=PO hxs;obtain rfl:=Bg (hargs 0 _ rfl);obtain rfl:=Bg (hargs 1 _ rfl);obtain ⟨m,hm⟩:=hL.2.1;refine (Any.strings_Split Ci (by kernel_rfl) (bs s) (bs [c]) m w (by rw [aX];omega) hm (by rw [aX];simp)).mono ?_
 rintro e w' ⟨rfl,rfl⟩
 rw [rH]
 have hlen:Lib.countB (bs s) (bs [c])+1=(aw c s).length:=by
  have h1:=Lib.splitB_all (bs [c]) (by rw [aX];simp) 0 _ (bs s) rfl;rw [rH] at h1
  simpa using h1.symm
 have hcl:=Lib.countB_le (bs [c]) (by rw [aX];simp) (bs s).size (bs s) (Nat.le_refl _);rw [aX] at hcl;rw [hlen];have hb:(w.alloc (.cells (((aw c s).map bs).map Value.string).toArray (Tryz.lays146_ren.t 9))).heap[w.heap.size]? = some (.cells (((aw c s).map bs).map Value.string).toArray (Tryz.lays146_ren.t 9) (0,0)):=mA w _;refine ⟨_,rfl,(Below.refl _ w).alloc (Nat.le_refl _) _,by simp,by simp [wR],.inr ⟨w.heap.size,0,(aw c s).length,_,_,λ_ _ _=>False,by simp,⟨Nat.le_refl _,dw hb⟩,hb,by simp,by unfold maxLen;omega,by simp,λ_ _ _ h=>h.elim,λ_ _ _ _ _ h=>h.elim,λi j row d hi hj=>?_⟩⟩;rw [List.getElem?_map] at hi
 cases hw:(aw c s)[i]? with
 |none=>rw [hw] at hi;cases hi
 | some x =>
   rw [hw] at hi
   cases hi
   unfold wR at hj
   match j,hj with
   | 0, hj =>
     cases hj
     have:(((aw c s).map bs).map Value.string).toArray.getD (0+(i*1+0)) undef=.string (bs x):=by simp [hw]
     rw [this];exact .plain rfl
theorem Ki (l:List (List UInt8)) (c:UInt8) (hl:l.length<=2 ^ 40) (hj:(Lib.join l [c]).length<=140737488355328):bY Tryz.prog LT 267 [.c (.s (l.map wR)),.c (vs [c])] (.one (.c (vs (Lib.join l [c])) 1)):=by
 refine ⟨⟨_,Tryz.func267,by kernel_rfl,by kernel_rfl⟩,λw hL xs hxs hargs=>?_⟩;obtain ⟨a,b,rfl⟩:=PO hxs;have h0:Rd w false (λ_=>True) a (.s (l.map wR)):=hargs 0 _ rfl;obtain rfl:=Bg (hargs 1 _ rfl);by_cases hn:l=[]
 ·subst hn
  obtain ⟨x,y,rfl⟩:=h0.empty_slice;refine (Any.strings_Join_none td jp x y (bs [c]) w).mono ?_
  rintro e w' ⟨rfl,rfl⟩
  exact ⟨_,rfl,Below.refl _ _,rfl,rfl⟩
 generalize hr:l.map wR=rows at h0
 cases h0 with
 |empty a cap h=>exact absurd (List.map_eq_nil_iff.1 hr) hn
 | slice b off cap sz cs T fr rows F hcap hmax hsz hS hb hfit hown hF hd hlen hrd =>
   subst hr
   have hsz1:sz=1:=by
    cases l with
    |nil=>exact absurd rfl hn
    |cons x l=>have:=hlen (wR x) (by simp);rw [eA] at this;exact this.symm
   subst hsz1
   have hcells:∀ (j:Nat) x,(l.map bs)[j]? = some x->w.cell? ⟨b,off+j,none⟩=some (.string x):=λj x hj=>by
    rw [List.getElem?_map] at hj
    cases hx:l[j]? with
    |none=>rw [hx] at hj;cases hj
    | some y =>
      rw [hx] at hj
      cases hj
      have h1:=hrd j 0 (wR y) (vs y) (by rw [List.getElem?_map,hx];rfl) rfl;have hjl:j<l.length:=(List.getElem?_eq_some_iff.1 hx).1;simp only [List.length_map] at hfit;have h2:off+(j*1+0)<cs.size:=by omega
      have e3:off+(j*1+0)=off+j:=by omega
      rw [e3] at h1 h2;unfold World.cell?;rw [hb];generalize hv:cs.getD (off+j) undef=v at h1
      cases h1
      rw [Array.getD_eq_getD_getElem?,Array.getElem?_eq_getElem h2] at hv;simp at hv;simp [h2,hv]
   have hd2:(l.map bs).map (·.data.toList)=l:=by
    rw [List.map_map]
    conv=>rhs;rw [<- List.map_id l]
    exact List.map_congr_left λx _=>dv x
   have:=Any.strings_Join td jp b off cap (l.map bs) (bs [c]) w hcells (dw hb) (by rw [List.length_map];omega) (by rw [List.length_map] at hcap ⊢;exact hcap) (by rw [hd2,dv];exact hj);rw [hd2,dv] at this;simp only [List.length_map] at this ⊢;refine this.mono ?_
   rintro e w' ⟨rfl,hB⟩
   exact ⟨_,rfl,hB,rfl,rfl⟩
set_option maxRecDepth 100000
set_option maxHeartbeats 4000000
theorem a7 (n:Int):bY Tryz.prog LT 106 [.c (vi n)] (.one (.c (vs (ao n)) 1)):=by
 refine bY.intro' ae LT.stay Tryz.func106 (by kernel_rfl) rfl rfl rfl (Nat.le_of_ble_eq_true rfl) (λw0 base hE=>?_);simp;refine aa.pure (aT n 0 1000000000) (by simp) ?_;by_cases h:0<=n/\n<=1000000000
 ·have e:Lib.itoa n=ao n:=by unfold Lib.itoa ao;rw [if_neg (by omega),if_pos h]
  simp [h];refine ag hE (Pq n (by omega) (by omega)) (by simp) ?_;simp [e]
 ·have e:ao n=[]:=by unfold ao;rw [if_neg h]
  simp [h,e];rfl
theorem LT.below {w w':World} (h:Below w.heap.size w w') (hL:LT w):LT w':=LT.stay w w' ⟨h.os,h.tape,h.output,h.size,h.block⟩ hL
theorem v8 {s:List UInt8} (h:s≠[]):(bs s).toList.isEmpty=false:=by
 have e:(bs s).toList=s:=by rw [ByteArray.toList_eq,dv]
 rw [e]
 cases s with
 |nil=>exact absurd rfl h
 |cons x l=>rfl
theorem N7 (s r:ByteArray) (v:Int) (w:World) (hs:s.toList.isEmpty=false) (hb:(r.toList == s.toList)=true)
 (A:Calls Tryz.prog 207 #[.string s] w λe w'=>e=.returned (.tuple #[.int .i64 v,.nilIface])/\Below w.heap.size w w')
 (N:∀ W,Below w.heap.size w W->Calls Tryz.prog 106 #[.int .i64 v] W λe w'=>e=.returned (.string r)/\Below w.heap.size w w') :
 Calls Tryz.prog 119 #[.string s] w λe w'=>e=.returned (.tuple #[.int .i64 v,.bool true])/\Below w.heap.size w w':=by
 go_enter Tryz.func119,Tryz.ntmps119
 go_wp2_with (go_at_call 207;refine A.mono ?_;rintro e w1 ⟨rfl,h1⟩)
 go_wp2_with (go_at_call 106;refine (N _ h1).mono ?_;rintro e w2 ⟨rfl,h2⟩)
 go_ret2
 exact ⟨rfl,h2⟩
theorem RA (s r:ByteArray) (v:Int) (w:World) (hs:s.toList.isEmpty=false) (hb:(r.toList == s.toList)=false)
 (A:Calls Tryz.prog 207 #[.string s] w λe w'=>e=.returned (.tuple #[.int .i64 v,.nilIface])/\Below w.heap.size w w')
 (N:∀ W,Below w.heap.size w W->Calls Tryz.prog 106 #[.int .i64 v] W λe w'=>e=.returned (.string r)/\Below w.heap.size w w') :
 Calls Tryz.prog 119 #[.string s] w λe w'=>e=.returned (.tuple #[.int .i64 0,.bool false])/\Below w.heap.size w w':=by
 go_enter Tryz.func119,Tryz.ntmps119
 go_wp2_with (go_at_call 207;refine A.mono ?_;rintro e w1 ⟨rfl,h1⟩)
 go_wp2_with (go_at_call 106;refine (N _ h1).mono ?_;rintro e w2 ⟨rfl,h2⟩)
 go_ret2
 exact ⟨rfl,h2⟩
theorem IZ (s:ByteArray) (v:Int) (w:World)
 (A:Calls Tryz.prog 207 #[.string s] w λe w'=>(∃ t p,e=.returned (.tuple #[.int .i64 v,.iface t p]))/\Below w.heap.size w w') :
 Calls Tryz.prog 119 #[.string s] w λe w'=>e=.returned (.tuple #[.int .i64 0,.bool false])/\Below w.heap.size w w':=by
 go_enter Tryz.func119,Tryz.ntmps119
 go_wp2_with (go_at_call 207;refine A.mono ?_;rintro e w1 ⟨⟨t,p,rfl⟩,h1⟩)
 go_ret2
 exact ⟨rfl,h1⟩
theorem qq (s:List UInt8) (hl:s.length<=2 ^ 31):bY Tryz.prog LT 119 [.c (vs s)] (.tup [.c (vi (aA s).1) 1,.c (.v (.bool (aA s).2)) 1]):=by
 refine ⟨⟨_,Tryz.func119,by kernel_rfl,by kernel_rfl⟩,λw hL xs hxs hargs=>?_⟩;obtain ⟨a,rfl⟩:=MQ hxs;obtain rfl:=Bg (hargs 0 _ rfl);have hL0:=hL;obtain ⟨_,_,⟨e1,hv1,he1⟩,⟨e2,hv2,he2⟩⟩:=hL
 have hend:∀ (x:Int) (b:Bool),aA s=(x,b)->(Calls Tryz.prog 119 #[.string (bs s)] w λe w'=>e=.returned (.tuple #[.int .i64 x,.bool b])/\Below w.heap.size w w')->Calls Tryz.prog 119 #[.string (bs s)] w λe w'=>∃ v,e=.returned v/\Below w.heap.size w w'/\Ep w' (λc=>w.heap.size<=c/\c<w'.heap.size) v (.tup [.c (vi (aA s).1) 1,.c (.v (.bool (aA s).2)) 1]):=λx b e hc=>by
  refine hc.mono ?_
  rintro _ w' ⟨rfl,hb⟩
  refine ⟨_,rfl,hb,_,λ_ _=>False,rfl,rfl,λ_ _ h=>h.elim,λ_ _ _ h=>h.elim,λj t hj=>?_⟩;rw [e] at hj
  match j,hj with
  |0,hj=>cases hj;exact ⟨rfl,rfl⟩
  |1,hj=>cases hj;exact ⟨rfl,rfl⟩
 have hsz:(bs s).size<=281474976710656:=by rw [aX];omega
 have hN:∀ v:Int,∀ W,Below w.heap.size w W->Calls Tryz.prog 106 #[.int .i64 v] W λe w'=>e=.returned (.string (bs (ao v)))/\Below w.heap.size w w':=λv W hb=>by
  refine ((a7 v).2 W (LT.below hb hL0) #[.int .i64 v] rfl (λi vd hi=>?_)).mono ?_
  ·match i,hi with
   |0,hi=>cases hi;exact .plain rfl
  ·rintro e w' ⟨u,rfl,h1,h2⟩
   obtain ⟨rfl,-⟩:=h2;exact ⟨rfl,hb.trans (h1.mono hb.size)⟩
 cases h:Lib.atoiAll s with
 | ok v =>
   have hs:s≠[]:=λe=>by subst e;cases h
   have hn:=AZ h
   have hA:Calls Tryz.prog 207 #[.string (bs s)] w λe w'=>e=.returned (.tuple #[.int .i64 v,.nilIface])/\Below w.heap.size w w':=by
    refine (Any.strconv_Atoi_ok mg (bs s) (by omega) v (by rw [dv];exact h) w).mono ?_
    rintro e w' ⟨rfl,rfl|⟨t,rfl⟩⟩
    ·exact ⟨rfl,Below.refl _ _⟩
    ·exact ⟨rfl,Lib.bytesWorld_below _ _ _⟩
   by_cases hq:ao v=s
   ·exact hend v true (hn.1 hq) (N7 (bs s) (bs (ao v)) v w (v8 hs) (by rw [hq,A2];simp [dc]) hA (hN v))
   ·exact hend 0 false (hn.2 hq) (RA (bs s) (bs (ao v)) v w (v8 hs) (by rw [A2,aN,eD];exact hq) hA (hN v))
 | «syntax» =>
   refine hend 0 false (rE λv e=>by rw [h] at e;cases e) (IZ (bs s) 0 w ?_);refine (Any.strconv_Atoi_syntax mg (bs s) hsz (by rw [dv];exact h) e1 w hv1 he1).mono ?_
   rintro e w' ⟨N,rfl,-,-,hb⟩
   exact ⟨⟨_,_,rfl⟩,hb⟩
 | range =>
   refine hend 0 false (rE λv e=>by rw [h] at e;cases e) (IZ (bs s) (Lib.atoiSat (bs s).data.toList) w ?_);refine (Any.strconv_Atoi_range mg (bs s) hsz (by rw [dv];exact h) e2 w hv2 he2).mono ?_
   rintro e w' ⟨N,rfl,-,-,hb⟩
   exact ⟨⟨_,_,rfl⟩,hb⟩
set_option maxRecDepth 20000
set_option maxHeartbeats 6400000
attribute [local simp] gv eJ aX eD eA
theorem Mo {l:List (List UInt8)} {B:Nat} (h:∀ w∈l,w.length<=B):Lib.lens l<=B*l.length:=by
 induction l with
 |nil=>simp [Lib.lens]
 | cons x l ih =>
   have h1:=h x (by simp);have h2:=ih λw hw=>h w (by simp [hw])
   have e:Lib.lens (x::l)=x.length+Lib.lens l:=by simp [Lib.lens]
   rw [e,List.length_cons,Nat.mul_succ];omega
theorem Bq {l:List (List UInt8)} {B:Nat} {c:UInt8} (h:∀ w∈l,w.length<=B):(Lib.join l [c]).length<=(B+1)*l.length:=by
 cases l with
 |nil=>simp [Lib.join_nil]
 | cons x l =>
   rw [Lib.join_length];have:=Mo h;rw [Nat.add_mul];simp at this ⊢;omega
theorem aS (n:Int):(ao n).length<=10:=by
 unfold ao
 split
 ·exact xR 9 _ (by omega)
 ·simp
theorem mn (l:List Int):(gG l).length<=11*l.length:=by
 have h:=Bq (l:=l.map ao) (B:=10) (c:=46) (λw hw=>by obtain ⟨n,-,rfl⟩:=List.mem_map.1 hw;exact aS n)
 simpa [gG] using h
theorem sD (l:List Int) (hl:l.length<=2 ^ 40):bY Tryz.prog LT 201 [.c (.s (l.map al))] (.one (.c (vs (gG l)) 1)):=by
 refine bY.intro' ae LT.stay Tryz.func201 (by kernel_rfl) rfl rfl rfl (Nat.le_of_ble_eq_true rfl) (λw0 base hE=>?_);simp;refine ah hE (λx:Nat×Hd=>x.1<=l.length) (λx=>⟨20,0,[(8,.v (.int .i64 x.1)),(7,.v (.int .i64 l.length)),(6,.ro (l.map al)),(3,.sl 5000 x.2 1 0 x.1)],[(5000,.rows x.2 1 (((l.take x.1).map ao).map wR) true)]⟩) (λx=>l.length - x.1) (0,none) (by simp) (by simp) (λx hx=>Ent.refl ?_);obtain ⟨i,H⟩:=x;simp only at hx ⊢;by_cases hlt:i<l.length
 ·simp [hlt]
  refine ag hE (a7 l[i]) (by simp) ?_;simp;intro b;have e1:i=min i l.length:=by omega
  refine ⟨e1,by omega,λH2=>Ent.refl ⟨i+1,by omega,by omega,H2,?_⟩⟩;simp;exact ⟨aj (by omega),dR (f:=wR ∘ ao) hlt⟩
 ·have e:i=l.length:=by omega
  subst e;simp;refine ag hE (Ki (l.map ao) 46 (by simpa using hl) (by have:=mn l;unfold gG at this;omega)) (by simp) ?_;simp [gG]
theorem oQ (l:List Int) (hl:l.length<=2 ^ 40):bY Tryz.prog LT 107 [.c (.s (l.map al))] (.one (.c (vs (bP l)) 1)):=by
 refine bY.intro' ae LT.stay Tryz.func107 (by kernel_rfl) rfl rfl rfl (Nat.le_of_ble_eq_true rfl) (λw0 base hE=>?_);simp;refine aa.pure (gi l hl) (by simp) ?_;by_cases h:cc l
 ·by_cases h0:l=[]
  ·have e:bP l=[45]:=by unfold bP;rw [if_pos h,if_pos h0]
   have h0':(l.length:Int)=0:=by rw [h0];rfl
   simp [h,h0',e]
  ·have e:bP l=gG l:=mV h h0
   have h0':¬ (l.length:Int)=0:=by have:=List.length_pos_iff.2 h0;omega
   simp [h,h0,e];refine ag hE (sD l hl) (by simp) ?_;simp
 ·have e:bP l=[]:=by unfold bP;rw [if_neg h]
  simp [h,e]
theorem mw (s:List UInt8) (hl:s.length<=2 ^ 31):bY Tryz.prog LT 183 [.c (vs s)] (.tup [.c (.s ((mY (er s)).1.map al)) 1,.c (.v (.bool (mY (er s)).2)) 1]):=by
 refine bY.intro' ae LT.stay Tryz.func183 (by kernel_rfl) rfl rfl rfl (Nat.le_of_ble_eq_true rfl) (λw0 base hE=>?_);simp;refine ag hE (A3 s 46 hl) (by simp) ?_;simp;intro H;obtain ⟨W,hW⟩:∃ W,aw 46 s=W:=⟨_,rfl⟩;have hlen:=(bJ 46 s).1;have hw:=(bJ 46 s).2;have hrd:er s=dr fO W:=by unfold er;rw [hW]
 rw [hW] at hlen hw ⊢
 refine ah hE (λx:Nat×List Int×Hd=>x.1<=W.length/\x.2.1.length=x.1/\er s=(dr fO (W.drop x.1)).map (x.2.1 ++ ·)) (λx=>⟨29,0,[(12,.v (.int .i64 x.1)),(11,.v (.int .i64 W.length)),(10,.sl 160 H 1 0 W.length),(4,.sl 5000 x.2.2 1 0 x.2.1.length),(3,.v (.bool false)),(2,.nil)],
  [(160,.rows H 1 (W.map wR) true),(5000,.rows x.2.2 1 (x.2.1.map al) true)]⟩) (λx=>W.length - x.1) (0,[],none) ⟨by simp,by simp,by simp [hrd]⟩ (by simp) (λx hi=>Ent.refl ?_)
 obtain ⟨i,out,K⟩:=x;obtain ⟨h1,h2,h3⟩:=hi;simp only at h1 h2 h3 ⊢;by_cases hlt:i<W.length
 ·have hx:=hw W[i] (List.getElem_mem hlt)
  have hst:er s=(fO W[i]).bind λy=>(dr fO (W.drop (i+1))).map λr=>out++(y::r):=by
   rw [h3,pL hlt]
   cases fO W[i]<;>simp [Function.comp_def]
  simp [hlt,wR];refine ag hE (qq W[i] (by omega)) (by simp) ?_;by_cases hok:(aA W[i]).2=true
  ·have hn:fO W[i]=some (aA W[i]).1:=by unfold fO;rw [if_pos hok]
   simp [hok];intro b;refine ⟨by omega,λH1=>Ent.refl ⟨i+1,out++[(aA W[i]).1],⟨by omega,by simp;omega,?_⟩,by omega,H1,?_⟩⟩
   ·rw [hst,hn];simp
   ·simp
    exact aj (by omega)
  ·have hn:fO W[i]=none:=by unfold fO;rw [if_neg hok]
   have hr:er s=none:=by rw [hst,hn];rfl
   have hok':(aA W[i]).2=false:=by simpa using hok
   simp [hok',hr,mY]
 ·have e:i=W.length:=by omega
  have hm:er s=some out:=by rw [h3,List.drop_of_length_le (by omega)];simp [dr]
  simp [hlt,hm,mY]
theorem Me {α β:Type} {f:α->Option β} {W:List α} {l:List β} (h:dr f W=some l):l.length<=W.length:=Nat.le_of_eq (xe h)
theorem wP {s:List UInt8} {l:List Int} (h:er s=some l):l.length<=s.length+1:=Nat.le_trans (Me h) (bJ 46 s).1
theorem oP (s:List UInt8) (hl:s.length<=2 ^ 31):bY Tryz.prog LT 95 [.c (vs s)] (.tup [.c (.s ((bZ s).1.map al)) 1,.c (.v (.bool (bZ s).2)) 1]):=by
 refine bY.intro' ae LT.stay Tryz.func95 (by kernel_rfl) rfl rfl rfl (Nat.le_of_ble_eq_true rfl) (λw0 base hE=>?_);by_cases hs:s=[45]
 ·subst hs
  simp [rD]
 ·obtain ⟨t1,t2,t3⟩:=yw hs
  simp [hs];refine ag hE (mw s hl) (by simp) ?_
  cases hr:er s with
  |none=>simp [mY,t3 hr]
  | some l =>
    have hll:=wP hr;simp [mY];intro H;refine aa.pure (gi l (by omega)) (by simp) ?_;by_cases ho:cc l
    ·simp [ho,t1 l hr ho]
    ·simp [ho,t2 l hr ho]
theorem Gf {p:Part} (h:ar p):(aC p).length<=2201:=by
 have hb:=h.bounds;have h1:=aS p.n;have h2:=mn p.signs;unfold aC
 split
 ·simp;omega
 ·split<;>simp<;>omega
theorem mp (o:List Part):(ba o).length<=2500000:=by
 unfold ba
 split
 ·rename_i h
  split
  ·simp
  ·have h1:=(eK h).1
   have h2:=Bq (l:=(bn o).map aC) (B:=2201) (c:=32) (λw hw=>by obtain ⟨p,hp,rfl⟩:=List.mem_map.1 hw;exact Gf (h1.1.1 p hp));have h3:=h1.1.2;simp at h2;omega
 ·simp
end Go.Proofs.YtibkifnmhkealaaGreatDoor
namespace Go.AM
open Go.RowKit
section rules
variable {k:Nat} {H:Hd} {sz:Nat} {rs:List (List CD)}
end rules
open Go.RowKit
theorem az.ent {E:Env} {body:Code} {Q:Exit->ASt->Prop} {st:ASt} (h:Ent E st (az E body Q)):az E body Q st:=λa w hR=>by
 obtain ⟨st',h1,h2⟩:=h a w hR;exact h1 a w h2
end Go.AM
namespace Go.Proofs.YtibkifnmhkealaaGreatDoor
open Go.AM
set_option maxRecDepth 20000
set_option maxHeartbeats 6400000
attribute [local simp] gv eJ aX eD eA
theorem rf {α:Type} {f:α->Nat} {a:α}:nL f [a]=f a+1:=by simp [nL,cJ];omega
theorem uE {o:List Part} (h:aR o) (h0:bn o=[]):ba o=[45]:=by unfold ba;rw [if_pos h,if_pos h0]
theorem uF {o:List Part} (h:aR o) (h0:bn o≠[]):ba o=Lib.join ((bn o).map aC) [32]:=by unfold ba;rw [if_pos h,if_neg h0]
theorem sA (o:List Part) (hl:nL aq o<=2 ^ 40):bY Tryz.prog LT 213 [.c (.s (o.map Part.row))] (.one (.c (vs (ba o)) 1)):=by
 refine bY.intro' ae LT.stay Tryz.func213 (by kernel_rfl) rfl rfl rfl (Nat.le_of_ble_eq_true rfl) (λw0 base hE=>?_);simp;refine aa.pure (cF o hl) (by simp) ?_;by_cases h:aR o
 rotate_left
 ·have e:ba o=[]:=by unfold ba;rw [if_neg h]
  simp [h,e]
 simp [h];refine aa.pure (gU o hl) (by simp) ?_;obtain ⟨h1,h2⟩:=eK h;have hz:=uE h;have hs:=uF h;have hle:=mp o;generalize ba o=T at hz hs hle ⊢;have hsh:=se (eK h);generalize bn o=q at h1 hz hs hsh ⊢;have hlen:=h1.1.2;simp;intro H;refine az.ent (lu 10 160 (by simp;exact ⟨rfl,rfl,rfl,rfl⟩) (by simp;exact ⟨rfl,rfl⟩) (by simp) (Ent.refl ?_));simp
 refine ah hE (λx:Nat×Hd=>x.1<=q.length) (λx=>⟨49,0,[(12,.v (.int .i64 x.1)),(11,.v (.int .i64 q.length)),(10,.ro (q.map Part.row)),(3,.sl 5000 x.2 1 0 x.1)],
  [(5000,.rows x.2 1 (((q.take x.1).map aC).map wR) true)]⟩) (λx=>q.length - x.1) (0,none) (by simp) (by simp) (λx hx=>Ent.refl ?_)
 obtain ⟨i,K⟩:=x;simp only at hx ⊢;by_cases hlt:i<q.length
 rotate_left
 ·have e:i=q.length:=by omega
  subst e;by_cases h0:q=[]
  ·subst h0
   simp [hz rfl]
  ·simp [h0]
   refine ag hE (Ki (q.map aC) 32 (by simp;omega) (by rw [<- hs h0];omega)) (by simp) ?_;simp [hs h0]
 have hpt:=hsh q[i] (List.getElem_mem hlt);have hok:=h1.1.1 q[i] (List.getElem_mem hlt);obtain ⟨⟨k,n,s⟩,hp⟩:∃ p,q[i]=p:=⟨_,rfl⟩;have hps:aC q[i]=aC ⟨k,n,s⟩:=by rw [hp]
 rw [hp] at hpt hok;have hb:=hok.bounds;simp only at hb;simp [hlt,hp,Part.row];intro b5;have e1:i=min i q.length:=by omega
 have h10:=aS n;by_cases k1:k=1
 ·have hT:aC q[i]=107::ao n:=by rw [hps,k1];simp [aC]
  simp [k1];refine ag hE (a7 n) (by simp) ?_;simp;refine ⟨by omega,λb=>⟨e1,by omega,λH2=>Ent.refl ⟨i+1,by omega,by omega,H2,?_⟩⟩⟩;simp;exact ⟨aj (by omega),by rw [<- hT];exact dR (f:=wR ∘ aC) hlt⟩
 by_cases k3:k=3
 ·have hT:aC q[i]=100::ao n:=by rw [hps,k3];simp [aC]
  simp [k3];refine ag hE (a7 n) (by simp) ?_;simp;refine ⟨by omega,λb=>⟨e1,by omega,λH2=>Ent.refl ⟨i+1,by omega,by omega,H2,?_⟩⟩⟩;simp;exact ⟨aj (by omega),by rw [<- hT];exact dR (f:=wR ∘ aC) hlt⟩
 have k2:k=2:=by omega
 have hT:aC q[i]=112::gG s:=by rw [hps,k2];simp [aC]
 have hsl:=mn s;simp [k2];refine ag hE (sD s (by omega)) (by simp) ?_;simp;refine ⟨by omega,λb=>⟨e1,by omega,λH2=>Ent.refl ⟨i+1,by omega,by omega,H2,?_⟩⟩⟩;simp;exact ⟨aj (by omega),by rw [<- hT];exact dR (f:=wR ∘ aC) hlt⟩
theorem pO (s:List UInt8) (hl:s.length<=2 ^ 31):bY Tryz.prog LT 36 [.c (vs s)] (.one (.c (.s ((aw 32 s).map wR)) 1)):=by
 refine bY.intro' ae LT.stay Tryz.func36 (by kernel_rfl) rfl rfl rfl (Nat.le_of_ble_eq_true rfl) (λw0 base hE=>?_);simp;refine ag hE (A3 s 32 hl) (by simp) ?_;simp
def fJ (s:List UInt8):List UInt8:=s.map λx=>if x=32 then 44 else x
def fk (s:List UInt8):List UInt8:=s.map λx=>if x=44 then 32 else x
theorem kH (o:List Part) (hl:nL aq o<=2 ^ 40):bY Tryz.prog LT 124 [.c (.s (o.map Part.row))] (.one (.c (vs (fJ (ba o))) 1)):=by
 refine bY.intro' ae LT.stay Tryz.func124 (by kernel_rfl) rfl rfl rfl (Nat.le_of_ble_eq_true rfl) (λw0 base hE=>?_);have hle:=mp o;simp;refine ag hE (sA o hl) (by simp) ?_;simp;refine ag hE (zM (ba o) 32 44 (by decide) (by omega)) (by simp) ?_;simp [fJ]
theorem Bw (s:List UInt8) (hl:s.length<=2 ^ 30):bY Tryz.prog LT 184 [.c (vs s)] (.tup [.c (.s ((cf s).1.map Part.row)) 3,.c (.v (.bool (cf s).2)) 1]):=by
 refine bY.intro' ae LT.stay Tryz.func184 (by kernel_rfl) rfl rfl rfl (Nat.le_of_ble_eq_true rfl) (λw0 base hE=>?_);by_cases hs:s=[45]
 ·subst hs
  simp [we]
 simp [hs];refine ag hE (pO s (by omega)) (by simp) ?_;simp;intro H;have hI:=λout=>Jw (out:=out) hs
 have hN:=uo (f:=hQ) (λp h hn=>vX h hn) hs;have hlen:=(bJ 32 s).1;have hw:=(bJ 32 s).2;have hsum:=rg 32 s;generalize aw 32 s=W at hlen hw hsum hI hN ⊢
 refine ah hE (λx:Nat×List Part×Hd=>x.1<=W.length/\x.2.1.length=x.1/\nL aq x.2.1+Bn (W.drop x.1)<=s.length+1/\dr hQ W=(dr hQ (W.drop x.1)).map (x.2.1 ++ ·)) (λx=>⟨65,0,[(14,.v (.int .i64 x.1)),(13,.v (.int .i64 W.length)),(12,.sl 192 H 1 0 W.length),(4,.sl 5000 x.2.2 3 0 x.2.1.length),(3,.v (.bool false)),(2,.nil),(0,.v (.string (bs s)))],
  [(192,.rows H 1 (W.map wR) true),(5000,.rows x.2.2 3 (x.2.1.map Part.row) true)]⟩) (λx=>W.length - x.1) (0,[],none) ⟨by simp,by simp,Nat.le_of_eq (by rw [List.drop_zero,hsum];exact Nat.zero_add _),by simp⟩ (by simp) (λx hi=>Ent.refl ?_)
 obtain ⟨i,out,K⟩:=x;obtain ⟨h1,h2,h3,h4⟩:=hi;simp only at h1 h2 h3 h4 ⊢;by_cases hlt:i<W.length
 rotate_left
 ·have e:i=W.length:=by omega
  have hm:dr hQ W=some out:=by rw [h4,List.drop_of_length_le (by omega)];simp [dr]
  obtain ⟨y1,y2⟩:=hI out hm;simp [hlt];refine aa.pure (cF out (by omega)) (by simp) ?_;by_cases ho:aR out
  rotate_left
  ·simp [ho,y2 (λh=>ho h.1)]
  simp [ho];refine ag hE (sA out (by omega)) (by simp) ?_;by_cases ht:ba out=s
  rotate_left
  ·simp [ht,y2 (λh=>ht h.2)]
  simp [ht,y1 ⟨ho,ht⟩];refine aa.pure (gU out (by omega)) (by simp) ?_;simp
 have hst:dr hQ W=(hQ W[i]).bind λy=>(dr hQ (W.drop (i+1))).map λr=>out++(y::r):=by
  rw [h4,pL hlt]
  cases hQ W[i]<;>simp [Function.comp_def]
 have hx:=hw W[i] (List.getElem_mem hlt);have hld:=Ab hlt;obtain ⟨w,hwi⟩:∃ w,W[i]=w:=⟨_,rfl⟩;rw [hwi] at hst hx hld;simp [hlt,wR,hwi]
 cases w with
 | nil =>
   have hr:dr hQ W=none:=by rw [hst];rfl
   simp [hN hr]
 | cons c y =>
   have hext:(bs (c::y)).extract 1 (y.length+1)=bs y:=by rw [x7];simp
   have hget:∀ h,(bs (c::y))[0]'h=c:=λh=>by rw [B4];rfl
   simp only [List.length_cons] at hx hld;simp [hext];refine ag hE (mw y (by omega)) (by simp) ?_
   cases hrd:er y with
   | none =>
     have hr:dr hQ W=none:=by rw [hst];simp [hQ,hrd]
     simp [mY,hN hr]
   | some l =>
     have hl0:=CZ hrd;have hl1:=wP hrd;simp [mY];intro H1;by_cases k1:c=107
     ·have k1':(c.toNat:Int)=107:=by rw [k1];rfl
      have hwd:hQ (c::y)=some ⟨1,l[0],[]⟩:=by simp [hQ,hrd,k1,hl0]
      simp [hget,k1',hl0];intro b;refine ⟨by omega,λH2=>Ent.refl ⟨i+1,out++[⟨1,l[0],[]⟩],⟨by omega,by simp;omega,?_,?_⟩,by omega,H2,?_⟩⟩
      ·rw [d7,rf]
       simp only [aq,List.length_nil];omega
      ·rw [hst,hwd];simp
      ·simp [Part.row]
       exact aj (by omega)
     have k1':¬ (c.toNat:Int)=107:=λh=>k1 (UInt8.toNat_inj.1 (by simpa using Int.ofNat.inj h))
     by_cases k2:c=100
     ·have k2':(c.toNat:Int)=100:=by rw [k2];rfl
      have hwd:hQ (c::y)=some ⟨3,l[0],[]⟩:=by simp [hQ,hrd,k2,hl0]
      simp [hget,k2',hl0];intro b;refine ⟨by omega,λH2=>Ent.refl ⟨i+1,out++[⟨3,l[0],[]⟩],⟨by omega,by simp;omega,?_,?_⟩,by omega,H2,?_⟩⟩
      ·rw [d7,rf]
       simp only [aq,List.length_nil];omega
      ·rw [hst,hwd];simp
      ·simp [Part.row]
       exact aj (by omega)
     have k2':¬ (c.toNat:Int)=100:=λh=>k2 (UInt8.toNat_inj.1 (by simpa using Int.ofNat.inj h))
     have hwd:hQ (c::y)=some ⟨2,0,l⟩:=by simp [hQ,hrd,k1,k2]
     simp [hget,k1',k2'];intro b;refine ⟨by omega,λH2=>Ent.refl ⟨i+1,out++[⟨2,0,l⟩],⟨by omega,by simp;omega,?_,?_⟩,by omega,H2,?_⟩⟩
     ·rw [d7,rf]
      simp only [aq];omega
     ·rw [hst,hwd];simp
     ·simp [Part.row]
      exact aj (by omega)
end Go.Proofs.YtibkifnmhkealaaGreatDoor
