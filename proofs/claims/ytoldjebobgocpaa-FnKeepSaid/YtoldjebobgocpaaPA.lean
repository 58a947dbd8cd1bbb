import Derived.Test.YtoldjebobgocpaaNA
import Derived.Test.YtoldjebobgocpaaMF
namespace Go.Proofs.Ytoldjebobgocpaa
open Go.AM
set_option maxRecDepth 20000
theorem aU (n lo hi : Int) : aB Try.prog 37 [.c (vi n),.c (vi lo),.c (vi hi)] (.one (.c (vb (lo<=n/\n<=hi)) 1)):=by
 refine pci aj Try.func37 (λw0 base=>?_);by_cases h1 : lo<=n<;>by_cases h2 : n<=hi<;>simp [h1,h2]
def dm (n : Int) : Prop:=(0<=n/\n<=1114111)/\¬ (55296<=n/\n<=57343)
def cL (l : List Int) : Prop:=∀ n∈l,dm n
theorem ql (n : Int) : aB Try.prog 102 [.c (vi n)] (.one (.c (vb (dm n)) 1)):=by
 refine pci aj Try.func102 (λw0 base=>?_);simp;refine aa.pure (aU n 0 1114111) (by simp) ?_;by_cases h : 0<=n/\n<=1114111
 ·simp [h]
  refine aa.pure (aU n 55296 57343) (by simp) ?_;by_cases h2 : 55296<=n/\n<=57343<;>simp [h2,dm,h]
  try (rw [lv];omega)
 ·have e : dc (0<=n/\n<=1114111) = false:=by rw [bg];exact h
  simp [dm,h]
theorem qV {α : Type} {P : α->Prop} {l : List α} {i : Nat} (h : i < l.length) (ha : ∀ a∈l.take i,P a) (hi : P l[i]) : ∀ a∈l.take (i + 1),P a:=by
 rw [<- List.take_append_getElem h];intro a ha';rcases List.mem_append.1 ha' with h1 | h1
 ·exact ha a h1
 ·simp at h1;subst h1;exact hi
theorem qW {α : Type} {P : α->Prop} {l : List α} {i : Nat} (h : l.length<=i) (ha : ∀ a∈l.take i,P a) : ∀ a∈l,P a:=by
 rwa [List.take_of_length_le h] at ha
theorem vw {α : Type} {P : α->Prop} {l : List α} {i : Nat} (h : i < l.length) (hi : ¬ P l[i]) : ¬ ∀ a∈l,P a:=λha=>hi (ha _ (List.getElem_mem h))
theorem jv (l : List Int) (hl : l.length<=2 ^ 40) : aB Try.prog 74 [.c (.s (l.map aN))] (.one (.c (vb (cL l)) 1)):=by
 refine pci aj Try.func74 (λw0 base=>?_);simp;refine bp.intro eok (λi : Nat=>i<=l.length/\∀ n∈l.take i,dm n) (λi=>⟨15,0,[(7,.v (.int .i64 i)),(6,.v (.int .i64 l.length)),(5,.ro (l.map aN))],[]⟩) (λi=>l.length - i) 0 (by simp) (by simp) (λi hi=>?_);by_cases h : i < l.length
 ·simp [h]
  refine aa.pure (ql l[i]) (by simp) ?_;simp;refine Br.mk (λh1=>?_) (λh1=>?_)
  ·simp
   exact ⟨i + 1,⟨by omega,qV h hi.2 (qa h1)⟩,by omega,aY (by omega)⟩
  ·simp [bg]
   exact vw h (u2 h1)
 ·simp [h,lv]
  exact qW (by omega) hi.2
def ag (p : Part) : Prop:=((p.kind = 1\/p.kind = 3)/\(0<=p.n/\p.n<=200)/\p.signs = [])\/(p.kind = 2/\p.n = 0/\p.signs.length<=200/\cL p.signs)
theorem rJ {p : Part} (h : p.kind = 1\/p.kind = 3) : ag p = ((0<=p.n/\p.n<=200)/\p.signs = []):=by
 have h2 : ¬ p.kind = 2:=by omega
 simp [ag,h,h2]
theorem eL {p : Part} (h : p.kind = 2) : ag p = (p.n = 0/\p.signs.length<=200/\cL p.signs):=by simp [ag,h]
theorem vQ {p : Part} (h1 : p.kind≠1) (h2 : p.kind≠2) (h3 : p.kind≠3) : ¬ ag p:=by simp [ag,h1,h2,h3]
theorem qr (p : Part) (hl : p.signs.length<=2 ^ 40) : aB Try.prog 101 [.agg p.row] (.one (.c (vb (ag p)) 1)):=by
 refine pci aj Try.func101 (λw0 base=>?_);simp [Part.row];intros;by_cases h13 : p.kind = 1\/p.kind = 3
 ·rw [rJ h13]
  rcases h13 with h | h
  ·simp [h]
   refine aa.pure (aU p.n 0 200) (by simp) ?_;by_cases hn : 0<=p.n/\p.n<=200
   ·simp [hn]
   ·have e : dc (0<=p.n/\p.n<=200) = false:=by rw [bg];exact hn
    simp [hn]
  ·simp [h]
   refine aa.pure (aU p.n 0 200) (by simp) ?_;by_cases hn : 0<=p.n/\p.n<=200
   ·simp [hn]
   ·have e : dc (0<=p.n/\p.n<=200) = false:=by rw [bg];exact hn
    simp [hn]
 ·have h1 : ¬ p.kind = 1:=λh=>h13 (.inl h)
  have h3 : ¬ p.kind = 3:=λh=>h13 (.inr h)
  by_cases h2 : p.kind = 2
  ·rw [eL h2]
   simp [h2];by_cases hn : p.n = 0
   ·by_cases hs : p.signs.length<=200
    ·have hs' : (p.signs.length : Int)<=200:=by omega
     simp [hn,hs'];refine aa.pure (jv p.signs hl) (by simp) ?_;simp [hs]
    ·have hs' : ¬ (p.signs.length : Int)<=200:=by omega
     simp [hn,hs',hs]
   ·simp [hn]
  ·simp [h1,h2,h3,vQ]
def dr (o : List Part) : Prop:=(∀ p∈o,ag p)/\o.length<=600
theorem jx (o : List Part) (hl : nL aC o<=2 ^ 40) : aB Try.prog 73 [.c (.s (o.map Part.row))] (.one (.c (vb (dr o)) 1)):=by
 refine pci aj Try.func73 (λw0 base=>?_);have hle:=dY hl;simp;refine bp.intro eok (λi : Nat=>i<=o.length/\∀ p∈o.take i,ag p) (λi=>⟨18,0,[(7,.v (.int .i64 i)),(6,.v (.int .i64 o.length)),(5,.ro (o.map Part.row)),(0,.ro (o.map Part.row))],[]⟩) (λi=>o.length - i) 0 (by simp) (by simp) (λi hi=>?_);by_cases h : i < o.length
 ·simp [h,Part.row]
  intros;refine aa.pure (qr o[i] (pf hl h)) (by simp [Part.row]) ?_;simp;refine Br.mk (λh1=>?_) (λh1=>?_)
  ·simp
   exact ⟨i + 1,⟨by omega,qV h hi.2 (qa h1)⟩,by omega,aY (by omega)⟩
  ·simp [bg]
   exact λhp=>vw h (u2 h1) hp.1
 ·have ha:=qW (by omega) hi.2
  simp [h];refine kN ?_;unfold dr;exact ⟨λh=>by have:=h.2;omega,λh=>⟨ha,by omega⟩⟩
def ba (f : Part->Int) : List Part->Int
 | []=>0
 | p :: o=>f p + ba f o
theorem lE {f : Part->Int} : ∀ (a b : List Part),ba f (a ++ b) = ba f a + ba f b
 | [],b=>by simp [ba]
 | p :: a,b=>by simp only [List.cons_append,ba,lE a b];omega
theorem eX {f : Part->Int} {o : List Part} {i : Nat} (h : i < o.length) : ba f (o.take (i + 1)) = ba f (o.take i) + f o[i]:=by
 rw [<- List.take_append_getElem h,lE];simp [ba]
theorem cT {f g : Part->Int} : ∀ {o : List Part},(∀ p∈o,f p = g p)->ba f o = ba g o
 | [],_=>rfl
 | p :: o,h=>by
   simp only [ba];rw [h p (List.mem_cons_self ..),cT (λq hq=>h q (List.mem_cons_of_mem _ hq))]
theorem fN {f g : Part->Int} : ∀ (o : List Part),ba (λp=>f p + g p) o = ba f o + ba g o
 | []=>by simp [ba]
 | p :: o=>by simp only [ba,fN o];omega
def fK (p : Part) : Int:=if p.kind = 1 then p.n else 0
def fP (p : Part) : Int:=if p.kind = 2 then p.signs.length else 0
def fD (p : Part) : Int:=if p.kind = 1 then 0 else if p.kind = 2 then 0 else p.n
def hU (k : Int) (p : Part) : Int:=if p.kind = k then 0 else p.n + p.signs.length
def fOf (k : Int) (p : Part) : Int:=if p.kind = k then p.n + p.signs.length else 0
theorem ag.bounds {p : Part} (h : ag p) : (p.kind = 1\/p.kind = 2\/p.kind = 3)/\0<=p.n/\p.n<=200/\p.signs.length<=200/\(p.kind = 2->p.n = 0)/\(p.kind≠2->p.signs = []):=by
 rcases h with ⟨h1,h2,h3⟩ | ⟨h1,h2,h3,h4⟩
 ·refine ⟨by omega,by omega,by omega,by simp [h3],by omega,λ_=>h3⟩
 ·refine ⟨by omega,by omega,by omega,h3,λ_=>h2,λh=>absurd h1 h⟩
theorem DJ {p : Part} (h : ag p) : hU 2 p = fK p + fD p:=by
 obtain ⟨h1,h2,h3,h4,h5,h6⟩:=h.bounds;unfold hU fK fD;by_cases k2 : p.kind = 2
 ·simp [k2]
 ·by_cases k1 : p.kind = 1<;>simp [k1,k2,h6 k2]
theorem DI {p : Part} (h : ag p) : hU 3 p = fK p + fP p:=by
 obtain ⟨h1,h2,h3,h4,h5,h6⟩:=h.bounds;unfold hU fK fP;rcases h1 with k | k | k
 ·simp [k,h6 (by omega)]
 ·simp [k,h5 k]
 ·simp [k]
theorem of2 {p : Part} (h : ag p) : fOf 2 p = fP p:=by
 obtain ⟨h1,h2,h3,h4,h5,h6⟩:=h.bounds;unfold fOf fP;by_cases k : p.kind = 2
 ·simp [k,h5 k]
 ·simp [k]
theorem of3 {p : Part} (h : ag p) : fOf 3 p = fD p:=by
 obtain ⟨h1,h2,h3,h4,h5,h6⟩:=h.bounds;unfold fOf fD;rcases h1 with k | k | k
 ·simp [k]
 ·simp [k]
 ·simp [k,h6 (by omega)]
theorem fM {f : Part->Int} {B : Int} (hf : ∀ p,ag p->0<=f p/\f p<=B) : ∀ {o : List Part},(∀ p∈o,ag p)->0<=ba f o/\ba f o<=B * o.length
 | [],_=>by simp [ba]
 | p :: o,h=>by
   have h1:=hf p (h p (List.mem_cons_self ..));have h2:=fM hf (o:=o) (λq hq=>h q (List.mem_cons_of_mem _ hq));simp only [ba,List.length_cons];rw [show B * ((o.length + 1 : Nat) : Int) = B * o.length + B by rw [Int.natCast_add];simp [Int.mul_add]];omega
theorem Dy {p : Part} (h : ag p) : 0<=fK p/\fK p<=200:=by have:=h.bounds;unfold fK;split<;>omega
theorem Dz {p : Part} (h : ag p) : 0<=fD p/\fD p<=200:=by have:=h.bounds;unfold fD;split<;>(try split)<;>omega
theorem DA {k : Int} {p : Part} (h : ag p) : 0<=hU k p/\hU k p<=400:=by have:=h.bounds;unfold hU;split<;>omega
theorem Gi {k : Int} {p : Part} (h : ag p) : 0<=fOf k p/\fOf k p<=400:=by have:=h.bounds;unfold fOf;split<;>omega
theorem mr {o : List Part} (h : ∀ p∈o,ag p) (i : Nat) : ∀ p∈o.take i,ag p:=λp hp=>h p (List.mem_of_mem_take hp)
theorem xU (p : Part) (hp : ag p) : aB Try.prog 52 [.agg p.row] (.one (.c (vi (p.n + p.signs.length)) 1)):=by
 refine pci aj Try.func52 (λw0 base=>?_);have:=hp.bounds;have e : Go.IntKind.i64.wrap (p.n + (p.signs.length : Int)) = p.n + p.signs.length:=Go.IntWalk.i64_in _ (by omega);simp [Part.row,e]
open Classical in
noncomputable def sizeOf (o : List Part) (k : Int) : Int:=if dr o then ba (hU k) o else 0
theorem kA (o : List Part) (hl : nL aC o<=2 ^ 40) (k : Int) : aB Try.prog 75 [.c (.s (o.map Part.row)),.c (vi k)] (.one (.c (vi (sizeOf o k)) 1)):=by
 refine pci aj Try.func75 (λw0 base=>?_);have hle:=dY hl;simp;refine aa.pure (jx o hl) (by simp) ?_;by_cases ho : dr o
 ·have hr : sizeOf o k = ba (hU k) o:=by unfold sizeOf;rw [if_pos ho]
  simp [ho,hr];refine bp.intro eok (λi : Nat=>i<=o.length) (λi=>⟨27,0,[(13,.v (.int .i64 i)),(12,.v (.int .i64 o.length)),(11,.ro (o.map Part.row)),(5,.v (.int .i64 (ba (hU k) (o.take i)))),(1,.v (.int .i64 k))],[]⟩) (λi=>o.length - i) 0 (by simp) (by simp [ba]) (λi hi=>?_);by_cases h : i < o.length
  ·have hp:=ho.1 _ (List.getElem_mem h)
   have hb:=fM (f:=hU k) (λp h=>DA h) (mr ho.1 i);have hb2:=hp.bounds;have hlen:=ho.2;have hlt : (o.take i).length<=600:=by simp;omega
   have hs:=eX (f:=hU k) h;obtain ⟨q,hq⟩ : ∃ q,ba (hU k) (o.take i) = q:=⟨_,rfl⟩;have e : Go.IntKind.i64.wrap ((i : Int) + 1) = ((i + 1 : Nat) : Int):=aY (by omega);rw [hq] at hs hb;simp [h,Part.row,hq];intros;by_cases hk : o[i].kind = k
   ·simp [hk]
    refine ⟨i + 1,by omega,by omega,e,?_⟩;rw [hs];simp [hU,hk]
   ·simp [hk]
    refine aa.pure (xU o[i] hp) (by simp [Part.row]) ?_;have e2 : Go.IntKind.i64.wrap (q + (o[i].n + (o[i].signs.length : Int))) = q + (o[i].n + o[i].signs.length):=Go.IntWalk.i64_in _ (by omega);simp [e2];refine ⟨i + 1,by omega,by omega,e,?_⟩;rw [hs];simp [hU,hk]
  ·simp [h]
   rw [List.take_of_length_le (by omega)]
 ·have e : dc (dr o) = false:=by rw [bg];exact ho
  have hr : sizeOf o k = 0:=by unfold sizeOf;rw [if_neg ho]
  simp [e,hr]
open Classical in
noncomputable def dR (o : List Part) : Int × Int × Int:=if dr o then (ba fK o,ba fP o,ba fD o) else (0,0,0)
noncomputable def az (o : List Part) : Int:=(dR o).1 + (dR o).2.2
noncomputable def bI (o : List Part) : Int:=(dR o).1 + (dR o).2.1
theorem rN (o : List Part) : sizeOf o 2 = az o:=by
 unfold sizeOf az dR
 split
 ·rename_i h
  show _ = ba fK o + ba fD o
  rw [<- fN];exact cT (λp hp=>DJ (h.1 p hp))
 ·rfl
theorem vU (o : List Part) : sizeOf o 3 = bI o:=by
 unfold sizeOf bI dR
 split
 ·rename_i h
  show _ = ba fK o + ba fP o
  rw [<- fN];exact cT (λp hp=>DI (h.1 p hp))
 ·rfl
theorem cu (o : List Part) (hl : nL aC o<=2 ^ 40) : aB Try.prog 36 [.c (.s (o.map Part.row))] (.one (.c (vi (az o)) 1)):=by
 refine pci aj Try.func36 (λw0 base=>?_);simp;refine aa.pure (kA o hl 2) (by simp) ?_;simp [rN]
theorem gY (o : List Part) (hl : nL aC o<=2 ^ 40) : aB Try.prog 39 [.c (.s (o.map Part.row))] (.one (.c (vi (bI o)) 1)):=by
 refine pci aj Try.func39 (λw0 base=>?_);simp;refine aa.pure (kA o hl 3) (by simp) ?_;simp [vU]
def aK (o : List Part) : Prop:=dr o/\az o<=200/\bI o<=200
theorem bq (o : List Part) (hl : nL aC o<=2 ^ 40) : aB Try.prog 34 [.c (.s (o.map Part.row))] (.one (.c (vb (aK o)) 1)):=by
 refine pci aj Try.func34 (λw0 base=>?_);simp;refine aa.pure (jx o hl) (by simp) ?_;by_cases h : dr o
 ·simp [h]
  refine aa.pure (cu o hl) (by simp) ?_;by_cases h1 : az o<=200
  ·simp [h1]
   refine aa.pure (gY o hl) (by simp) ?_;simp [aK,h,h1]
  ·simp [h1,aK,h]
 ·simp [h,aK]
def aL (L : List Part) (P : List Int) (D : Int) : List Part:=L ++ ((if P = [] then [] else [⟨2,0,P⟩]) ++ (if 0 < D then [⟨3,D,[]⟩] else []))
def cP (L : List Part) (n : Int) : List Part:=
 if h : 0 < L.length then
  if (L[L.length - 1]'(by omega)).kind = 1 then L.set (L.length - 1) ⟨1,(L[L.length - 1]'(by omega)).n + n,(L[L.length - 1]'(by omega)).signs⟩ else L ++ [⟨1,n,[]⟩]
 else [⟨1,n,[]⟩]
def es (s : List Part × List Int × Int) (p : Part) : List Part × List Int × Int:=
 if p.kind = 2 then (s.1,s.2.1 ++ p.signs,s.2.2)
 else if p.kind = 3 then (s.1,s.2.1,s.2.2 + p.n)
 else if 0 < p.n then (cP (aL s.1 s.2.1 s.2.2) p.n,[],0) else s
def bc (o : List Part) : List Part × List Int × Int:=o.foldl es ([],[],0)
def normal (o : List Part) : List Part:=aL (bc o).1 (bc o).2.1 (bc o).2.2
theorem eM {o : List Part} {i : Nat} (h : i < o.length) : bc (o.take (i + 1)) = es (bc (o.take i)) o[i]:=by
 unfold bc;rw [<- List.take_append_getElem h,List.foldl_append];rfl
structure NbOk (m : Nat) (s : List Part × List Int × Int) : Prop where
 l : s.1.length<=3 * m
 p : s.2.1.length<=200 * m
 d0 : 0<=s.2.2
 d : s.2.2<=200 * m
 q : ∀ q∈s.1,0<=q.n/\q.n<=200 * m
theorem iH (L : List Part) (P : List Int) (D : Int) : (aL L P D).length<=L.length + 2:=by
 unfold aL
 split<;>split<;>simp
theorem pe {L : List Part} {P : List Int} {D B : Int} (h0 : 0<=D) (hD : D<=B) (hL : ∀ q∈L,0<=q.n/\q.n<=B) : ∀ q∈aL L P D,0<=q.n/\q.n<=B:=by
 intro q hq;unfold aL at hq;simp only [List.mem_append] at hq;rcases hq with hq | hq | hq
 ·exact hL q hq
 ·split at hq
  ·simp at hq
  ·simp at hq;subst hq;simp;omega
 ·split at hq
  ·simp at hq;subst hq;simp;omega
  ·simp at hq
theorem kn {o : List Part} (ho : ∀ p∈o,ag p) : ∀ (i : Nat),i<=o.length->NbOk i (bc (o.take i))
 | 0,_=>by
   simp [bc];exact ⟨by simp,by simp,by simp,by simp,by simp⟩
 | i + 1,hi=>by
   have ih:=kn ho i (by omega);have hlt : i < o.length:=by omega
   rw [eM hlt];have hp:=(ho _ (List.getElem_mem hlt)).bounds;generalize bc (o.take i) = s at ih;generalize o[i] = p at hp;obtain ⟨L,P,D⟩:=s;obtain ⟨h1,h2,h3,h4,h5⟩:=ih;simp only at h1 h2 h3 h4 h5;have w : ∀ q∈L,0<=q.n/\q.n<=200 * ((i + 1 : Nat) : Int):=λq hq=>by have:=h5 q hq;omega
   unfold es
   split
   ·exact ⟨by simp;omega,by simp;omega,h3,by simp;omega,w⟩
   ·split
    ·exact ⟨by simp;omega,by simp;omega,by simp;omega,by simp;omega,w⟩
    ·split
     ·have f1:=iH L P D
      have f2:=pe (P:=P) h3 h4 h5;refine ⟨?_,by simp,by simp,by simp;omega,?_⟩
      ·simp only [cP]
       split
       ·split<;>simp<;>omega
       ·simp;omega
      ·simp only [cP]
       intro q hq
       split at hq
       ·split at hq
        ·rcases List.mem_or_eq_of_mem_set hq with hq | rfl
         ·have:=f2 q hq;omega
         ·have:=f2 _ (List.getElem_mem (show (aL L P D).length - 1 < (aL L P D).length by omega))
          simp only;omega
        ·rcases List.mem_append.1 hq with hq | hq
         ·have:=f2 q hq;omega
         ·simp at hq;subst hq;simp;omega
       ·simp at hq;subst hq;simp;omega
     ·exact ⟨by simp;omega,by simp;omega,h3,by simp;omega,w⟩
theorem Du {L : List Part} {P : List Int} {D : Int} (hP : ¬ P = []) (hD : 0 < D) : aL L P D = L ++ [⟨2,0,P⟩] ++ [⟨3,D,[]⟩]:=by simp [aL,hP,hD]
theorem Dt {L : List Part} {P : List Int} {D : Int} (hP : ¬ P = []) (hD : ¬ 0 < D) : aL L P D = L ++ [⟨2,0,P⟩]:=by simp [aL,hP,hD]
theorem Ds {L : List Part} {P : List Int} {D : Int} (hP : P = []) (hD : 0 < D) : aL L P D = L ++ [⟨3,D,[]⟩]:=by simp [aL,hP,hD]
theorem Dr {L : List Part} {P : List Int} {D : Int} (hP : P = []) (hD : ¬ 0 < D) : aL L P D = L:=by simp [aL,hP,hD]
theorem iN {w0 : World} {bF bG : Nat->Prop} {bl : Bool} {st : ASt} {dst : Option Nat} {K : ASt->Prop} {L : List Part} {P : List Int} {D : Int} {b3 b4 b5 : Nat} {Hl Hp : Hd} (hL : L.length<=2 ^ 20) (_hP : P.length<=2 ^ 40)
 (g48 : st.h.get 48 = .vars b3 24 [.sl 5000 Hl 3 0 L.length]) (g64 : st.h.get 64 = .vars b4 23 [.sl 5001 Hp 1 0 P.length]) (g80 : st.h.get 80 = .vars b5 3 [.v (.int .i64 D)])
 (g5000 : st.h.get 5000 = .rows Hl 3 (L.map Part.row) true) (g5001 : st.h.get 5001 = .rows Hp 1 (P.map aN) true)
 (hK : ∀ Hl' h',AH.get h' 48 = .vars b3 24 [.sl 5000 Hl' 3 0 (aL L P D).length] -> AH.get h' 5000 = .rows Hl' 3 ((aL L P D).map Part.row) true -> AH.get h' 64 = .vars b4 23 [.nil] -> AH.get h' 80 = .vars b5 3 [.v (.int .i64 0)] ->
  AH.get h' 128 = st.h.get 128->aF ⟨st.n,st.kb,st.t,h'⟩ dst (.tup []) K) : aa ⟨Try.prog,tt,w0,⟨bF,bG,bl,λ_=>True⟩⟩ 84 [.p 64 b4 0,.p 48 b3 0,.p 80 b5 0] st dst K:=by
 refine inl aj Try.func84 20000 (λw1 F=>?_);simp [g64];by_cases hp : P = []
 ·have hp0 : ¬ 0 < P.length:=by simp [hp]
  simp [hp0,g80];by_cases hd : 0 < D
  ·simp [hd,g48,g5000,g80,g64]
   intro b;refine ⟨by omega,λH=>hK H _ ?_ ?_ ?_ ?_ ?_⟩<;>simp [Ds hp hd,Part.row]
  ·simp [hd,g80,g64]
   refine hK Hl _ ?_ ?_ ?_ ?_ ?_<;>simp [Dr hp hd,g48,g5000]
 ·have hp0 : 0 < P.length:=List.length_pos_iff.2 hp
  simp [hp0,g80,g48,g5000,g5001,g64];intro b;refine ⟨by omega,λH=>?_⟩;by_cases hd : 0 < D
  ·simp [hd,g80,g64]
   intro b2;refine ⟨by omega,λH2=>hK H2 _ ?_ ?_ ?_ ?_ ?_⟩<;>simp [Du hp hd,Part.row]
  ·simp [hd,g80,g64]
   refine hK H _ ?_ ?_ ?_ ?_ ?_<;>simp [Dt hp hd,Part.row]
theorem tp {F : List Part} {m : Nat} (h : m < F.length) {g : List CD->List CD} {p : Part} (hg : g F[m].row = p.row) : (F.map Part.row).modify m g = (F.set m p).map Part.row:=by
 apply List.ext_getElem?
 intro j;rw [List.getElem?_modify];simp only [List.getElem?_map,List.getElem?_set];by_cases hj : m = j
 ·subst hj
  simp [h,hg]
 ·simp [hj]
theorem kl (o : List Part) (ho : ∀ p∈o,ag p) (hl : o.length<=10000) : aB Try.prog 54 [.c (.s (o.map Part.row))] (.one (.c (.s ((normal o).map Part.row)) 3)):=by
 refine pci aj Try.func54 (λw0 base=>?_);simp;intro b3 b4 b5
 refine aI eok (λx : Nat × Hd × Hd=>x.1<=o.length) (λx=>⟨73,0,[(13,.v (.int .i64 x.1)),(12,.v (.int .i64 o.length)),(11,.ro (o.map Part.row)),(3,.p 48 b3 0),(4,.p 64 b4 0),(5,.p 80 b5 0),(6,.clo 84 [.p 64 b4 0,.p 48 b3 0,.p 80 b5 0])],
  [(48,.vars b3 24 [.sl 5000 x.2.1 3 0 (bc (o.take x.1)).1.length]),(64,.vars b4 23 [.sl 5001 x.2.2 1 0 (bc (o.take x.1)).2.1.length]),(80,.vars b5 3 [.v (.int .i64 (bc (o.take x.1)).2.2)]),
   (5000,.rows x.2.1 3 ((bc (o.take x.1)).1.map Part.row) true),(5001,.rows x.2.2 1 ((bc (o.take x.1)).2.1.map aN) true)]⟩) (λx=>o.length - x.1) (0,none,none) (by simp) (by simp [bc]) (λx hx=>Ent.refl ?_)
 obtain ⟨i,Hl,Hp⟩:=x;simp only at hx ⊢;have hok:=kn ho i hx;by_cases h : i < o.length
 ·have hs:=eM h
  have hpb:=(ho _ (List.getElem_mem h)).bounds;generalize bc (o.take i) = s at hok hs;obtain ⟨L,P,D⟩:=s;obtain ⟨k1,k2,k3,k4,k5⟩:=hok;simp only at k1 k2 k3 k4 k5;have e : Go.IntKind.i64.wrap ((i : Int) + 1) = ((i + 1 : Nat) : Int):=aY (by omega);simp [h,Part.row];intro b8;by_cases c2 : o[i].kind = 2
  ·simp [c2]
   refine ⟨by omega,λH=>?_⟩;refine Ent.refl ⟨i + 1,by omega,by omega,Hl,H,?_⟩;rw [hs];simp [es,c2,e]
  ·by_cases c3 : o[i].kind = 3
   ·have e3 : Go.IntKind.i64.wrap (D + o[i].n) = D + o[i].n:=Go.IntWalk.i64_in _ (by omega)
    simp [c3,e3];refine Ent.refl ⟨i + 1,by omega,by omega,Hl,Hp,?_⟩;rw [hs];simp [es,c3,e]
   ·by_cases cn : 0 < o[i].n
    ·simp [c2,c3,cn]
     refine iN (L:=L) (P:=P) (D:=D) (Hl:=Hl) (Hp:=Hp) (by omega) (by omega) (by simp) (by simp) (by simp) (by simp) (by simp) (λHl' h' g48 g5000 g64 g80 g128=>?_);have f1:=iH L P D;have f2:=pe (P:=P) k3 k4 k5;have hstep : es (L,P,D) o[i] = (cP (aL L P D) o[i].n,[],0):=by simp [es,c2,c3,cn]
     rw [hstep] at hs;generalize aL L P D = F at f1 f2 g48 g5000 hs;simp at g128;by_cases hF : 0 < F.length
     ·obtain ⟨m,hm⟩ : ∃ m,F.length = m + 1:=⟨F.length - 1,by omega⟩
      have hmlt : m < F.length:=by omega
      have em : Go.IntKind.i64.wrap (m : Int) = m:=vj (by omega)
      have hk : cP F o[i].n = if F[m].kind = 1 then F.set m ⟨1,F[m].n + o[i].n,F[m].signs⟩ else F ++ [⟨1,o[i].n,[]⟩]:=by
       have e0 : F.length - 1 = m:=by omega
       simp [cP,hF,e0]
      have hq:=f2 _ (List.getElem_mem hmlt);simp [g48,g5000,hm,em,Part.row];by_cases ck : F[m].kind = 1
      ·rw [if_pos ck] at hk
       have em2 : Go.IntKind.i64.wrap (F[m].n + o[i].n) = F[m].n + o[i].n:=Go.IntWalk.i64_in _ (by omega);have hmm : (m : Int) < m + 1:=by omega
       simp [ck,hmm];refine drw eok mix [0,1,2,3,4,5,6,7,8,9,10] [11] (.c 11 11 2045 2 (.l 11 2) .s) ?_;simp [g48,g5000,g128,hm,em,Part.row,ck,em2,hmm];refine Ent.kill 5001 (Ent.refl ⟨i + 1,by omega,by omega,Hl',none,?_⟩);rw [hs,hk];have hmod:=tp (F:=F) (m:=m) hmlt (g:=λrow=>dQ row 1 [CD.v (Value.int IntKind.i64 (F[m].n + o[i].n))]) (p:=⟨1,F[m].n + o[i].n,F[m].signs⟩) (by simp [Part.row,ck]);simp [e,g48,g64,g80,hm,hmod]
      ·rw [if_neg ck] at hk
       simp [ck,g48,g5000,g128,hm];refine ⟨by omega,λb=>⟨by omega,λH=>?_⟩⟩;refine Ent.kill 5001 (Ent.refl ⟨i + 1,by omega,by omega,H,none,?_⟩);rw [hs,hk];simp [e,Part.row,g64,g80,hm]
     ·have hF0 : F = []:=List.eq_nil_of_length_eq_zero (by omega)
      subst hF0;have hk : cP [] o[i].n = [⟨1,o[i].n,[]⟩]:=by simp [cP]
      simp [g48,g5000,g128];intro b H;refine Ent.kill 5001 (Ent.refl ⟨i + 1,by omega,by omega,H,none,?_⟩);rw [hs,hk];simp [e,Part.row,g64,g80]
    ·simp [c2,c3,cn]
     refine Ent.refl ⟨i + 1,by omega,by omega,Hl,Hp,?_⟩;rw [hs];simp [es,c2,c3,cn,e]
 ·have he : o.take i = o:=List.take_of_length_le (by omega)
  rw [he] at hok ⊢;have hn : normal o = aL (bc o).1 (bc o).2.1 (bc o).2.2:=rfl;rw [hn];generalize bc o = s at hok;obtain ⟨L,P,D⟩:=s;obtain ⟨k1,k2,k3,k4,k5⟩:=hok;simp only at k1 k2 k3 k4 k5;simp [h];refine iN (L:=L) (P:=P) (D:=D) (Hl:=Hl) (Hp:=Hp) (by omega) (by omega) (by simp) (by simp) (by simp) (by simp) (by simp) (λHl' h' g48 g5000 g64 g80 g128=>?_);simp [g48,g5000]
open Classical in
noncomputable def cO (o : List Part) : List Part:=if aK o then normal o else []
theorem kD (o : List Part) (hl : nL aC o<=2 ^ 40) : aB Try.prog 76 [.c (.s (o.map Part.row))] (.one (.c (.s ((cO o).map Part.row)) 3)):=by
 refine pci aj Try.func76 (λw0 base=>?_);simp;refine aa.pure (bq o hl) (by simp) ?_;by_cases h : aK o
 ·have e : cO o = normal o:=by unfold cO;rw [if_pos h]
  simp [h,e];refine aa.pure (kl o h.1.1 (by have:=h.1.2;omega)) (by simp) ?_;simp
 ·have e : cO o = []:=by unfold cO;rw [if_neg h]
  have e2 : dc (aK o) = false:=by rw [bg];exact h
  simp [e,e2]
theorem jc (a b : List Int) (hl : a.length<=2 ^ 40) : aB Try.prog 40 [.c (.s (a.map aN)),.c (.s (b.map aN))] (.one (.c (vb (a = b)) 1)):=by
 refine pci aj Try.func40 (λw0 base=>?_);by_cases h : a.length = b.length
 ·simp [h]
  refine bp.intro eok (λi : Nat=>i<=a.length/\a.take i = b.take i) (λi=>⟨26,0,[(13,.v (.int .i64 i)),(12,.v (.int .i64 b.length)),(1,.ro (b.map aN)),(0,.ro (a.map aN))],[]⟩) (λi=>a.length - i) 0 (by simp) (by simp) (λi hi=>?_);by_cases hlt : i < a.length
  ·have hlt' : i < b.length:=by omega
   simp [hlt'];refine aR.quiet eok mix (by kernel_rfl) ?_;simp [hlt,hlt'];refine Br.mk (λh1=>?_) (λh1=>?_)
   ·simp
    exact ⟨i + 1,⟨by omega,oR hlt hlt' hi.2 (qa h1)⟩,by omega,aY (by omega)⟩
   ·simp [bg]
    exact BD hlt hlt' (u2 h1)
  ·have hlt' : ¬ i < b.length:=by omega
   simp [hlt',lv];exact rj (by omega) (by omega) hi.2
 ·have hz : ¬ (a.length : Int) = b.length:=by omega
  simp [hz,bg];exact λh2=>absurd (by rw [h2]) h
theorem s0 (p q : Part) (hl : p.signs.length<=2 ^ 40) : aB Try.prog 46 [.agg p.row,.agg q.row] (.one (.c (vb (p = q)) 1)):=by
 refine pci aj Try.func46 (λw0 base=>?_);obtain ⟨k1,n1,s1⟩:=p;obtain ⟨k2,n2,s2⟩:=q;simp [Part.row];intro b1 b2;by_cases h1 : k1 = k2
 ·by_cases h2 : n1 = n2
  ·simp [h1,h2]
   refine aa.pure (jc s1 s2 hl) (by simp) ?_;simp
  ·simp [h1,h2]
 ·simp [h1]
theorem sy (a b : List Part) (hl : a.length<=2 ^ 40) (hs : ∀ p∈a,p.signs.length<=2 ^ 40) : aB Try.prog 45 [.c (.s (a.map Part.row)),.c (.s (b.map Part.row)),.c (.v (.func (.func 46) #[] #[]))] (.one (.c (vb (a = b)) 1)):=by
 refine pci aj Try.func45 (λw0 base=>?_);by_cases h : a.length = b.length
 ·simp [h]
  refine bp.intro eok (λi : Nat=>i<=a.length/\a.take i = b.take i) (λi=>⟨32,0,[(17,.v (.int .i64 i)),(16,.v (.int .i64 b.length)),(15,.ro (a.map Part.row)),(2,.v (.func (.func 46) #[] #[])),(1,.ro (b.map Part.row))],[]⟩) (λi=>a.length - i) 0 (by simp) (by simp) (λi hi=>?_);by_cases hlt : i < a.length
  ·have hlt' : i < b.length:=by omega
   simp [hlt,hlt',Part.row];intro b1 b2;refine aa.pure (s0 a[i] b[i] (hs _ (List.getElem_mem hlt))) (by simp [Part.row]) ?_;simp;refine Br.mk (λh1=>?_) (λh1=>?_)
   ·simp
    exact ⟨i + 1,⟨by omega,oR hlt hlt' hi.2 (qa h1)⟩,by omega,aY (by omega)⟩
   ·simp [bg]
    exact BD hlt hlt' (u2 h1)
  ·have hlt' : ¬ i < b.length:=by omega
   simp [hlt',lv];exact rj (by omega) (by omega) hi.2
 ·have hz : ¬ (a.length : Int) = b.length:=by omega
  simp [hz,bg];exact λh2=>absurd (by rw [h2]) h
theorem yh (a b : List Part) (hl : a.length<=2 ^ 40) (hs : ∀ p∈a,p.signs.length<=2 ^ 40) : aB Try.prog 17 [.c (.s (a.map Part.row)),.c (.s (b.map Part.row))] (.one (.c (vb (a = b)) 1)):=by
 refine pci aj Try.func17 (λw0 base=>?_);simp;refine aa.pure (sy a b hl hs) (by simp) ?_;simp
theorem kC (a b : List Part) (h : nL aC a<=2 ^ 40) : aB Try.prog 17 [.c (.s (a.map Part.row)),.c (.s (b.map Part.row))] (.one (.c (vb (a = b)) 1)):=yh a b (dY h) (λ_p hp=>gq h hp)
theorem d2 {α : Type} {f : α->Nat} : ∀ (a b : List α),bj f (a ++ b) = bj f a + bj f b
 | [],b=>by simp [bj]
 | x :: a,b=>by simp only [List.cons_append,bj,d2 a b];omega
theorem rm {α : Type} {f : α->Nat} : ∀ (l : List α) (i : Nat) (h : i < l.length) (x : α),f x = f l[i]->bj f (l.set i x) = bj f l
 | a :: l,0,_,x,hx=>by simp at hx;simp [bj,hx]
 | a :: l,i + 1,h,x,hx=>by
   simp only [List.set_cons_succ,bj];rw [rm l i (by simpa using h) x (by simpa using hx)]
theorem lK {L : List Part} {P : List Int} {D : Int} : bj aC (aL L P D) = bj aC L + P.length:=by
 unfold aL;rw [d2,d2];by_cases hp : P = []<;>by_cases hd : 0 < D<;>simp [hp,hd,bj,aC]
theorem tl {L : List Part} {n : Int} : bj aC (cP L n) = bj aC L:=by
 unfold cP
 split
 ·rename_i h
  split
  ·exact rm L _ (by omega) _ rfl
  ·rw [d2];simp [bj,aC]
 ·rename_i h
  have : L = []:=List.eq_nil_of_length_eq_zero (by omega);subst this;simp [bj,aC]
theorem pa {o : List Part} : ∀ (i : Nat),i<=o.length->bj aC (bc (o.take i)).1 + (bc (o.take i)).2.1.length<=bj aC (o.take i)
 | 0,_=>by simp [bc,bj]
 | i + 1,hi=>by
   have ih:=pa (o:=o) i (by omega);have hlt : i < o.length:=by omega
   rw [eM hlt,<- List.take_append_getElem hlt,d2];generalize bc (o.take i) = s at ih;generalize o[i] = p;obtain ⟨L,P,D⟩:=s;simp only at ih;have hp : bj aC [p] = p.signs.length:=by simp [bj,aC]
   rw [hp];unfold es
   split
   ·simp;omega
   ·split
    ·simp;omega
    ·split
     ·simp only [tl,lK];simp;omega
     ·simp;omega
theorem tg (o : List Part) : bj aC (normal o)<=bj aC o:=by
 have h:=pa (o:=o) o.length (by omega);rw [List.take_length] at h;unfold normal;rw [lK];exact h
theorem th {o : List Part} (ho : ∀ p∈o,ag p) : (normal o).length<=3 * o.length + 2:=by
 have h:=(kn ho o.length (by omega)).l;rw [List.take_length] at h;have:=iH (bc o).1 (bc o).2.1 (bc o).2.2;unfold normal;omega
theorem mR {o : List Part} (ho : ∀ p∈o,ag p) : bj aC o<=200 * o.length:=by
 induction o with
 | nil=>simp [bj]
 | cons p o ih=>
   have h1:=(ho p (List.mem_cons_self ..)).bounds;have h2:=ih (λq hq=>ho q (List.mem_cons_of_mem _ hq));simp only [bj,aC,List.length_cons];omega
theorem yq {o : List Part} (ho : ∀ p∈o,ag p) : nL aC o<=201 * o.length:=by
 have:=mR ho;unfold nL;omega
theorem jh {o : List Part} (ho : ∀ p∈o,ag p) : nL aC (normal o)<=203 * o.length + 2:=by
 have h1:=tg o;have h2:=th ho;have h3:=mR ho;unfold nL;omega
theorem rM (o : List Part) : nL aC (cO o)<=2 ^ 20:=by
 unfold cO
 split
 ·rename_i h
  have:=jh h.1.1;have:=h.1.2;omega
 ·simp [nL,bj]
def dp (o : List Part) : Prop:=aK o/\cO o = o
theorem gZ (o : List Part) (hl : nL aC o<=2 ^ 40) : aB Try.prog 38 [.c (.s (o.map Part.row))] (.one (.c (vb (dp o)) 1)):=by
 refine pci aj Try.func38 (λw0 base=>?_);simp;refine aa.pure (bq o hl) (by simp) ?_;by_cases h : aK o
 ·simp [h]
  refine aa.pure (kD o hl) (by simp) ?_;simp;intro H;refine aa.pure (kC o (cO o) hl) (by simp) ?_;simp [dp,h];exact kN ⟨λh=>h.symm,λh=>h.symm⟩
 ·simp [h,dp]
open Classical in
noncomputable def rD (o : List Part) : Int:=if aK o then ba fP o else 0
open Classical in
noncomputable def nE (o : List Part) : Int:=if aK o then ba fD o else 0
open Classical in
noncomputable def cU (o : List Part) (k : Int) : Int:=if aK o then ba (fOf k) o else 0
theorem vM (o : List Part) : cU o 2 = rD o:=by
 unfold cU rD
 split
 ·rename_i h;exact cT (λp hp=>of2 (h.1.1 p hp))
 ·rfl
theorem t8 (o : List Part) : cU o 3 = nE o:=by
 unfold cU nE
 split
 ·rename_i h;exact cT (λp hp=>of3 (h.1.1 p hp))
 ·rfl
theorem gJ (o : List Part) (hl : nL aC o<=2 ^ 40) (k : Int) : aB Try.prog 77 [.c (.s (o.map Part.row)),.c (vi k)] (.one (.c (vi (cU o k)) 1)):=by
 refine pci aj Try.func77 (λw0 base=>?_);have hle:=dY hl;simp;refine aa.pure (bq o hl) (by simp) ?_;by_cases hok : aK o
 ·have ho:=hok.1
  have hr : cU o k = ba (fOf k) o:=by unfold cU;rw [if_pos hok]
  simp [hok,hr];refine bp.intro eok (λi : Nat=>i<=o.length) (λi=>⟨27,0,[(13,.v (.int .i64 i)),(12,.v (.int .i64 o.length)),(11,.ro (o.map Part.row)),(5,.v (.int .i64 (ba (fOf k) (o.take i)))),(1,.v (.int .i64 k))],[]⟩) (λi=>o.length - i) 0 (by simp) (by simp [ba]) (λi hi=>?_);by_cases h : i < o.length
  ·have hp:=ho.1 _ (List.getElem_mem h)
   have hb:=fM (f:=fOf k) (λp h=>Gi h) (mr ho.1 i);have hb2:=hp.bounds;have hlen:=ho.2;have hlt : (o.take i).length<=600:=by simp;omega
   have hs:=eX (f:=fOf k) h;obtain ⟨q,hq⟩ : ∃ q,ba (fOf k) (o.take i) = q:=⟨_,rfl⟩;have e : Go.IntKind.i64.wrap ((i : Int) + 1) = ((i + 1 : Nat) : Int):=aY (by omega);rw [hq] at hs hb;simp [h,Part.row,hq];intros;by_cases hk : o[i].kind = k
   ·simp [hk]
    refine aa.pure (xU o[i] hp) (by simp [Part.row,hk]) ?_;have e2 : Go.IntKind.i64.wrap (q + (o[i].n + (o[i].signs.length : Int))) = q + (o[i].n + o[i].signs.length):=Go.IntWalk.i64_in _ (by omega);simp [e2];refine ⟨i + 1,by omega,by omega,e,?_⟩;rw [hs];simp [fOf,hk]
   ·simp [hk]
    refine ⟨i + 1,by omega,by omega,e,?_⟩;rw [hs];simp [fOf,hk]
  ·simp [h]
   rw [List.take_of_length_le (by omega)]
 ·have e : dc (aK o) = false:=by rw [bg];exact hok
  have hr : cU o k = 0:=by unfold cU;rw [if_neg hok]
  simp [e,hr]
theorem tL (o : List Part) (hl : nL aC o<=2 ^ 40) : aB Try.prog 43 [.c (.s (o.map Part.row))] (.one (.c (vi (rD o)) 1)):=by
 refine pci aj Try.func43 (λw0 base=>?_);simp;refine aa.pure (gJ o hl 2) (by simp) ?_;simp [vM]
theorem r7 (o : List Part) (hl : nL aC o<=2 ^ 40) : aB Try.prog 44 [.c (.s (o.map Part.row))] (.one (.c (vi (nE o)) 1)):=by
 refine pci aj Try.func44 (λw0 base=>?_);simp;refine aa.pure (gJ o hl 3) (by simp) ?_;simp [t8]
def eB (o : List Part) : Prop:=aK o/\rD o = 0/\nE o = 0
theorem jM (o : List Part) (hl : nL aC o<=2 ^ 40) : aB Try.prog 14 [.c (.s (o.map Part.row))] (.one (.c (vb (eB o)) 1)):=by
 refine pci aj Try.func14 (λw0 base=>?_);simp;refine aa.pure (bq o hl) (by simp) ?_;by_cases h : aK o
 ·simp [h]
  refine aa.pure (tL o hl) (by simp) ?_;by_cases h1 : rD o = 0
  ·simp [h1]
   refine aa.pure (r7 o hl) (by simp) ?_;simp [eB,h,h1]
  ·simp [h1,eB]
 ·simp [h,eB]
def bX (t : List Int) : Prop:=t.length<=200/\cL t
theorem fu (t : List Int) (hl : t.length<=2 ^ 40) : aB Try.prog 35 [.c (.s (t.map aN))] (.one (.c (vb (bX t)) 1)):=by
 refine pci aj Try.func35 (λw0 base=>?_);by_cases h : t.length<=200
 ·have h' : (t.length : Int)<=200:=by omega
  simp [h'];refine aa.pure (jv t hl) (by simp) ?_;simp [bX,h]
 ·have h' : ¬ (t.length : Int)<=200:=by omega
  simp [h',bX,h]
open Classical in
noncomputable def ar (n : Int) : List Part:=if 1<=n/\n<=200 then [⟨1,n,[]⟩] else []
theorem eU (n : Int) : aB Try.prog 41 [.c (vi n)] (.one (.c (.s ((ar n).map Part.row)) 3)):=by
 refine pci aj Try.func41 (λw0 base=>?_);simp;refine aa.pure (aU n 1 200) (by simp) ?_;by_cases h : 1<=n/\n<=200
 ·simp [h,ar,Part.row]
 ·have e : dc (1<=n/\n<=200) = false:=by rw [bg];exact h
  have k : ar n = []:=by unfold ar;rw [if_neg h]
  simp [e,k]
def psz (p : Part) : Nat:=p.n.toNat + p.signs.length
def cN (p : Part) (n : Nat) : Part:=if p.kind = 2 then ⟨p.kind,p.n,p.signs.take n⟩ else ⟨p.kind,n,p.signs⟩
def aw (p : Part) (n : Nat) : Part:=if p.kind = 2 then ⟨p.kind,p.n,p.signs.drop n⟩ else ⟨p.kind,p.n - n,p.signs⟩
theorem eo {p : Part} (h : ag p) : (psz p : Int) = p.n + p.signs.length/\psz p<=200:=by
 have hb:=h.bounds;unfold psz;by_cases hk : p.kind = 2
 ·have:=hb.2.2.2.2.1 hk
  omega
 ·have:=hb.2.2.2.2.2 hk
  rw [this];simp;omega
@[simp] theorem EH {p : Part} {n : Nat} : (cN p n).kind = p.kind:=by unfold cN;split<;>rfl
@[simp] theorem CJ {p : Part} {n : Nat} : (aw p n).kind = p.kind:=by unfold aw;split<;>rfl
theorem ep {p : Part} (h : ag p) {n : Nat} (hn : n<=psz p) : ag (cN p n):=by
 have hp:=eo h;unfold cN;by_cases hk : p.kind = 2
 ·rw [if_pos hk]
  rw [eL hk] at h;refine .inr ⟨hk,h.1,?_,λm hm=>h.2.2 m (List.mem_of_mem_take hm)⟩;simp;omega
 ·rw [if_neg hk]
  have hb:=h.bounds;have hk2 : p.kind = 1\/p.kind = 3:=by omega
  have:=hb.2.2.2.2.2 hk;refine .inl ⟨hk2,?_,this⟩;simp only;omega
theorem rH {p : Part} (h : ag p) {n : Nat} (hn : n<=psz p) : ag (aw p n):=by
 have hp:=eo h;unfold aw;by_cases hk : p.kind = 2
 ·rw [if_pos hk]
  rw [eL hk] at h;refine .inr ⟨hk,h.1,?_,λm hm=>h.2.2 m (List.mem_of_mem_drop hm)⟩;simp;omega
 ·rw [if_neg hk]
  have hb:=h.bounds;have hk2 : p.kind = 1\/p.kind = 3:=by omega
  have:=hb.2.2.2.2.2 hk;refine .inl ⟨hk2,?_,this⟩;rw [this] at hp;simp at hp;simp only;omega
theorem cM {p : Part} (h : ag p) {n : Nat} (hn : n<=psz p) : psz (aw p n) = psz p - n:=by
 have hb:=h.bounds;unfold psz aw at *;by_cases hk : p.kind = 2
 ·rw [if_pos hk]
  have:=hb.2.2.2.2.1 hk;simp only [this,List.length_drop] at hn ⊢;omega
 ·rw [if_neg hk]
  have:=hb.2.2.2.2.2 hk;simp only [this,List.length_nil] at hn ⊢;omega
theorem cf {p : Part} (h : ag p) : cN p (psz p) = p:=by
 have hb:=h.bounds;unfold psz cN;by_cases hk : p.kind = 2
 ·rw [if_pos hk]
  have:=hb.2.2.2.2.1 hk;rw [List.take_of_length_le (by omega)]
 ·rw [if_neg hk]
  have:=hb.2.2.2.2.2 hk;obtain ⟨k,n,s⟩:=p;simp only at this hb;subst this;simp;omega
theorem rG {p : Part} {m n : Nat} : aw (aw p m) n = aw p (m + n):=by
 unfold aw;by_cases hk : p.kind = 2
 ·simp [hk,List.drop_drop]
 ·simp [hk]
  omega
theorem s8 {p : Part} : aw p 0 = p:=by unfold aw;split<;>simp
def nxt : List Part->List Part
 | []=>[]
 | p :: l=>if psz p = 0 then nxt l else p :: l
def tsz : List Part->Nat
 | []=>0
 | p :: l=>psz p + tsz l
def frs : List Part->Nat
 | []=>0
 | p :: l=>(if p.kind = 2 then 0 else psz p) + frs l
def tos : List Part->Nat
 | []=>0
 | p :: l=>(if p.kind = 3 then 0 else psz p) + tos l
theorem kj : ∀ l : List Part,tsz (nxt l) = tsz l
 | []=>rfl
 | p :: l=>by
   unfold nxt
   split
   ·rename_i h;rw [kj l];simp [tsz,h]
   ·rfl
theorem eQ : ∀ l : List Part,frs (nxt l) = frs l
 | []=>rfl
 | p :: l=>by
   unfold nxt
   split
   ·rename_i h;rw [eQ l];simp [frs,h]
   ·rfl
theorem mA : ∀ l : List Part,tos (nxt l) = tos l
 | []=>rfl
 | p :: l=>by
   unfold nxt
   split
   ·rename_i h;rw [mA l];simp [tos,h]
   ·rfl
theorem cl : ∀ {l : List Part} {p : Part} {l' : List Part},nxt l = p :: l'->0 < psz p
 | [],p,l',h=>by simp [nxt] at h
 | q :: l,p,l',h=>by
   unfold nxt at h
   split at h
   ·exact cl h
   ·simp at h;rw [<- h.1];omega
theorem cr : ∀ l : List Part,nxt (nxt l) = nxt l
 | []=>rfl
 | p :: l=>by
   by_cases h : psz p = 0
   ·simp only [nxt,h,if_true];exact cr l
   ·simp only [nxt,h,if_false]
theorem jH : ∀ l : List Part,∃ k,k<=l.length/\nxt l = l.drop k/\∀ i,(h : i < l.length)->i < k->psz l[i] = 0
 | []=>⟨0,by simp,rfl,λi h=>by simp at h⟩
 | p :: l=>by
   by_cases h : psz p = 0
   ·obtain ⟨k,h1,h2,h3⟩:=jH l
    refine ⟨k + 1,by simp;omega,by simp [nxt,h,h2],λi hi hk=>?_⟩
    cases i with
    | zero=>simpa using h
    | succ i=>simpa using h3 i (by simpa using hi) (by omega)
   ·exact ⟨0,by simp,by simp [nxt,h],λi _ hk=>by omega⟩
theorem ge {l : List Part} {p : Part} (h : p∈nxt l) : p∈l:=by
 obtain ⟨k,_,h2,_⟩:=jH l;rw [h2] at h;exact List.mem_of_mem_drop h
theorem mB (l : List Part) : (nxt l).length<=l.length:=by
 obtain ⟨k,_,h2,_⟩:=jH l;rw [h2];simp
def d6 (x y : List Part) : Option (List Part × List Part × List Part):=
 match nxt x with
 | p :: x'=>if p.kind = 3 then some ([cN p (psz p)],aw p (psz p) :: x',y) else match nxt y with
   | q :: y'=>if q.kind = 2 then some ([cN q (psz q)],p :: x',aw q (psz q) :: y') else
       some (if q.kind = 1 then [cN p (min (psz p) (psz q))] else if p.kind = 1 then [cN q (min (psz p) (psz q))] else [],aw p (min (psz p) (psz q)) :: x',aw q (min (psz p) (psz q)) :: y')
   | []=>none
 | []=>match nxt y with
   | q :: y'=>if q.kind = 2 then some ([cN q (psz q)],[],aw q (psz q) :: y') else none
   | []=>none
structure CInv (x y : List Part) : Prop where
 px : ∀ p∈x,ag p
 py : ∀ p∈y,ag p
 b : tos x = frs y
theorem dg {l l' : List Part} {p : Part} {n : Nat} (hl : ∀ q∈l,ag q) (he : nxt l = p :: l') (hn : n<=psz p) : ∀ q∈aw p n :: l',ag q:=by
 intro q hq;rcases List.mem_cons.1 hq with rfl | hq
 ·exact rH (hl p (ge (he ▸ List.mem_cons_self ..))) hn
 ·exact hl q (ge (he ▸ List.mem_cons_of_mem _ hq))
theorem bY {l l' : List Part} {p : Part} (hl : ∀ q∈l,ag q) (he : nxt l = p :: l') : ag p/\∀ q∈p :: l',ag q:=
 ⟨hl p (ge (he ▸ List.mem_cons_self ..)),λq hq=>hl q (ge (he ▸ hq))⟩
structure CNext (x y : List Part) (r : List Part × List Part × List Part) : Prop where
 inv : CInv r.2.1 r.2.2
 dec : tsz r.2.1 + tsz r.2.2 < tsz x + tsz y
 ok : ∀ p∈r.1,ag p
 len : r.1.length<=1
theorem cY {x y : List Part} (hi : CInv x y) {r : List Part × List Part × List Part} (h : d6 x y = some r) : CNext x y r:=by
 have hx:=kj x;have hy:=kj y;have hxt:=mA x;have hyf:=eQ y;have hb:=hi.b;unfold d6 at h
 cases ex : nxt x with
 | nil=>
   rw [ex] at h hx hxt
   cases ey : nxt y with
   | nil=>simp [ey] at h
   | cons q y'=>
     rw [ey] at hy hyf;have hq:=bY hi.py ey;have hp:=cl ey;simp only [ey] at h
     split at h
     ·rename_i k
      cases h
      have hs:=cM hq.1 (Nat.le_refl _);refine ⟨⟨by simp,dg hi.py ey (Nat.le_refl _),?_⟩,?_,?_,by simp⟩
      ·simp [tos,frs,k] at hxt hyf ⊢;omega
      ·simp [tsz] at hx hy ⊢;omega
      ·intro p hp;simp at hp;subst hp;exact ep hq.1 (Nat.le_refl _)
     ·cases h
 | cons p x'=>
   rw [ex] at h hx hxt;have hp:=bY hi.px ex;have hpp:=cl ex;simp only at h
   split at h
   ·rename_i k
    cases h
    have hs:=cM hp.1 (Nat.le_refl _);refine ⟨⟨dg hi.px ex (Nat.le_refl _),hi.py,?_⟩,?_,?_,by simp⟩
    ·simp [tos,k] at hxt ⊢;omega
    ·simp [tsz] at hx ⊢;omega
    ·intro q hq;simp at hq;subst hq;exact ep hp.1 (Nat.le_refl _)
   ·rename_i k3
    cases ey : nxt y with
    | nil=>simp [ey] at h
    | cons q y'=>
      rw [ey] at hy hyf;have hq:=bY hi.py ey;have hqp:=cl ey;simp only [ey] at h
      split at h
      ·rename_i k
       cases h
       have hs:=cM hq.1 (Nat.le_refl _);refine ⟨⟨hp.2,dg hi.py ey (Nat.le_refl _),?_⟩,?_,?_,by simp⟩
       ·simp [tos,frs,k,k3] at hxt hyf ⊢;omega
       ·simp [tsz] at hx hy ⊢;omega
       ·intro p hp;simp at hp;subst hp;exact ep hq.1 (Nat.le_refl _)
      ·rename_i k2
       cases h
       have hn1 : min (psz p) (psz q)<=psz p:=by omega
       have hn2 : min (psz p) (psz q)<=psz q:=by omega
       have hs1:=cM hp.1 hn1;have hs2:=cM hq.1 hn2;refine ⟨⟨dg hi.px ex hn1,dg hi.py ey hn2,?_⟩,?_,?_,?_⟩
       ·simp [tos,frs,k2,k3] at hxt hyf ⊢;omega
       ·simp [tsz] at hx hy ⊢;omega
       ·intro r hr
        simp only at hr
        split at hr
        ·simp at hr;subst hr;exact ep hp.1 hn1
        ·split at hr
         ·simp at hr;subst hr;exact ep hq.1 hn2
         ·simp at hr
       ·simp only;split<;>(try split)<;>simp
noncomputable def mi : Nat->List Part->List Part->List Part
 | 0,_,_=>[]
 | k + 1,x,y=>match d6 x y with
   | none=>[]
   | some r=>r.1 ++ mi k r.2.1 r.2.2
noncomputable def cmp (x y : List Part) : List Part:=mi (tsz x + tsz y) x y
theorem vq : ∀ (k m : Nat) {x y : List Part},CInv x y->tsz x + tsz y<=k->tsz x + tsz y<=m->mi k x y = mi m x y
 | 0,0,_,_,_,_,_=>rfl
 | k + 1,0,x,y,hi,h,h2=>by
   rw [mi,mi]
   cases hs : d6 x y with
   | none=>rfl
   | some r=>have:=(cY hi hs).dec;omega
 | 0,m + 1,x,y,hi,h,h2=>by
   rw [mi,mi]
   cases hs : d6 x y with
   | none=>rfl
   | some r=>have:=(cY hi hs).dec;omega
 | k + 1,m + 1,x,y,hi,h,h2=>by
   rw [mi,mi]
   cases hs : d6 x y with
   | none=>rfl
   | some r=>
     have hn:=cY hi hs;have:=hn.dec;simp only;rw [vq k m hn.inv (by omega) (by omega)]
theorem sB {x y : List Part} (h : d6 x y = none) : cmp x y = []:=by
 unfold cmp
 cases tsz x + tsz y with
 | zero=>rfl
 | succ k=>rw [mi,h]
theorem iV {x y : List Part} (hi : CInv x y) {r : List Part × List Part × List Part} (h : d6 x y = some r) : cmp x y = r.1 ++ cmp r.2.1 r.2.2:=by
 have hn:=cY hi h;have hd:=hn.dec;unfold cmp;obtain ⟨k,hk⟩ : ∃ k,tsz x + tsz y = k + 1:=⟨tsz x + tsz y - 1,by omega⟩;rw [hk,mi,h];simp only;rw [vq k (tsz r.2.1 + tsz r.2.2) hn.inv (by omega) (by omega)]
abbrev XR:=(List Part × List Part) × List Part × List Part
def db (x y : List Part) : Option XR:=
 match nxt x with
 | p :: x'=>if p.kind = 2 then some (([cN p (psz p)],[⟨1,p.signs.length,[]⟩]),aw p (psz p) :: x',y) else match nxt y with
   | q :: y'=>if q.kind = 2 then some (([⟨1,q.signs.length,[]⟩],[cN q (psz q)]),p :: x',aw q (psz q) :: y') else
       some ((if q.kind = 1 then [cN p (min (psz p) (psz q))] else [],if p.kind = 1 then [cN q (min (psz p) (psz q))] else []),aw p (min (psz p) (psz q)) :: x',aw q (min (psz p) (psz q)) :: y')
   | []=>none
 | []=>match nxt y with
   | q :: y'=>if q.kind = 2 then some (([⟨1,q.signs.length,[]⟩],[cN q (psz q)]),[],aw q (psz q) :: y') else none
   | []=>none
structure TInv (x y : List Part) : Prop where
 px : ∀ p∈x,ag p
 py : ∀ p∈y,ag p
 b : frs x = frs y
structure TNext (x y : List Part) (r : XR) : Prop where
 inv : TInv r.2.1 r.2.2
 dec : tsz r.2.1 + tsz r.2.2 < tsz x + tsz y
 okx : ∀ p∈r.1.1,ag p
 oky : ∀ p∈r.1.2,ag p
 lenx : r.1.1.length<=1
 leny : r.1.2.length<=1
theorem tH {p : Part} (h : ag p) : ag ⟨1,p.signs.length,[]⟩:=by
 have:=h.bounds;exact .inl ⟨.inl rfl,by simp only;omega,rfl⟩
theorem cd {x y : List Part} (hi : TInv x y) {r : XR} (h : db x y = some r) : TNext x y r:=by
 have hx:=kj x;have hy:=kj y;have hxt:=eQ x;have hyf:=eQ y;have hb:=hi.b;unfold db at h
 cases ex : nxt x with
 | nil=>
   rw [ex] at h hx hxt
   cases ey : nxt y with
   | nil=>simp [ey] at h
   | cons q y'=>
     rw [ey] at hy hyf;have hq:=bY hi.py ey;have hp:=cl ey;simp only [ey] at h
     split at h
     ·rename_i k
      cases h
      have hs:=cM hq.1 (Nat.le_refl _);refine ⟨⟨by simp,dg hi.py ey (Nat.le_refl _),?_⟩,?_,?_,?_,by simp,by simp⟩
      ·simp [frs,k] at hxt hyf ⊢;omega
      ·simp [tsz] at hx hy ⊢;omega
      ·intro p hp;simp at hp;subst hp;exact tH hq.1
      ·intro p hp;simp at hp;subst hp;exact ep hq.1 (Nat.le_refl _)
     ·cases h
 | cons p x'=>
   rw [ex] at h hx hxt;have hp:=bY hi.px ex;have hpp:=cl ex;simp only at h
   split at h
   ·rename_i k
    cases h
    have hs:=cM hp.1 (Nat.le_refl _);refine ⟨⟨dg hi.px ex (Nat.le_refl _),hi.py,?_⟩,?_,?_,?_,by simp,by simp⟩
    ·simp [frs,k] at hxt ⊢;omega
    ·simp [tsz] at hx ⊢;omega
    ·intro q hq;simp at hq;subst hq;exact ep hp.1 (Nat.le_refl _)
    ·intro q hq;simp at hq;subst hq;exact tH hp.1
   ·rename_i k3
    cases ey : nxt y with
    | nil=>simp [ey] at h
    | cons q y'=>
      rw [ey] at hy hyf;have hq:=bY hi.py ey;have hqp:=cl ey;simp only [ey] at h
      split at h
      ·rename_i k
       cases h
       have hs:=cM hq.1 (Nat.le_refl _);refine ⟨⟨hp.2,dg hi.py ey (Nat.le_refl _),?_⟩,?_,?_,?_,by simp,by simp⟩
       ·simp [frs,k,k3] at hxt hyf ⊢;omega
       ·simp [tsz] at hx hy ⊢;omega
       ·intro p hp;simp at hp;subst hp;exact tH hq.1
       ·intro p hp;simp at hp;subst hp;exact ep hq.1 (Nat.le_refl _)
      ·rename_i k2
       cases h
       have hn1 : min (psz p) (psz q)<=psz p:=by omega
       have hn2 : min (psz p) (psz q)<=psz q:=by omega
       have hs1:=cM hp.1 hn1;have hs2:=cM hq.1 hn2;refine ⟨⟨dg hi.px ex hn1,dg hi.py ey hn2,?_⟩,?_,?_,?_,?_,?_⟩
       ·simp [frs,k2,k3] at hxt hyf ⊢;omega
       ·simp [tsz] at hx hy ⊢;omega
       ·intro r hr
        simp only at hr
        split at hr
        ·simp at hr;subst hr;exact ep hp.1 hn1
        ·simp at hr
       ·intro r hr
        simp only at hr
        split at hr
        ·simp at hr;subst hr;exact ep hq.1 hn2
        ·simp at hr
       ·simp only;split<;>simp
       ·simp only;split<;>simp
noncomputable def xfK : Nat->List Part->List Part->List Part × List Part
 | 0,_,_=>([],[])
 | k + 1,x,y=>match db x y with
   | none=>([],[])
   | some r=>(r.1.1 ++ (xfK k r.2.1 r.2.2).1,r.1.2 ++ (xfK k r.2.1 r.2.2).2)
noncomputable def xf (x y : List Part) : List Part × List Part:=xfK (tsz x + tsz y) x y
theorem xo : ∀ (k m : Nat) {x y : List Part},TInv x y->tsz x + tsz y<=k->tsz x + tsz y<=m->xfK k x y = xfK m x y
 | 0,0,_,_,_,_,_=>rfl
 | k + 1,0,x,y,hi,h,h2=>by
   rw [xfK,xfK]
   cases hs : db x y with
   | none=>rfl
   | some r=>have:=(cd hi hs).dec;omega
 | 0,m + 1,x,y,hi,h,h2=>by
   rw [xfK,xfK]
   cases hs : db x y with
   | none=>rfl
   | some r=>have:=(cd hi hs).dec;omega
 | k + 1,m + 1,x,y,hi,h,h2=>by
   rw [xfK,xfK]
   cases hs : db x y with
   | none=>rfl
   | some r=>
     have hn:=cd hi hs;have:=hn.dec;simp only;rw [xo k m hn.inv (by omega) (by omega)]
theorem zK {x y : List Part} (h : db x y = none) : xf x y = ([],[]):=by
 unfold xf
 cases tsz x + tsz y with
 | zero=>rfl
 | succ k=>rw [xfK,h]
theorem zJ {x y : List Part} (hi : TInv x y) {r : XR} (h : db x y = some r) : xf x y = (r.1.1 ++ (xf r.2.1 r.2.2).1,r.1.2 ++ (xf r.2.1 r.2.2).2):=by
 have hn:=cd hi h;have hd:=hn.dec;unfold xf;obtain ⟨k,hk⟩ : ∃ k,tsz x + tsz y = k + 1:=⟨tsz x + tsz y - 1,by omega⟩;rw [hk,xfK,h];simp only;rw [xo k (tsz r.2.1 + tsz r.2.2) hn.inv (by omega) (by omega)]
theorem qx : ∀ {o : List Part},(∀ p∈o,ag p)->(frs o : Int) = ba (hU 2) o
 | [],_=>rfl
 | p :: o,h=>by
   have ih:=qx (λq hq=>h q (List.mem_cons_of_mem _ hq));have hp:=eo (h p (List.mem_cons_self ..));simp only [frs,ba,hU]
   split<;>simp<;>omega
theorem pW : ∀ {o : List Part},(∀ p∈o,ag p)->(tos o : Int) = ba (hU 3) o
 | [],_=>rfl
 | p :: o,h=>by
   have ih:=pW (λq hq=>h q (List.mem_cons_of_mem _ hq));have hp:=eo (h p (List.mem_cons_self ..));simp only [tos,ba,hU]
   split<;>simp<;>omega
theorem e9 {o : List Part} (h : aK o) : (frs o : Int) = az o:=by
 rw [qx h.1.1,cT (λp hp=>DJ (h.1.1 p hp)),fN];unfold az dR;rw [if_pos h.1]
theorem jE {o : List Part} (h : aK o) : (tos o : Int) = bI o:=by
 rw [pW h.1.1,cT (λp hp=>DI (h.1.1 p hp)),fN];unfold bI dR;rw [if_pos h.1]
theorem sU : ∀ (o : List Part),tsz o<=frs o + tos o
 | []=>by simp [tsz]
 | p :: o=>by
   have:=sU o;simp only [tsz,frs,tos]
   split<;>split<;>omega
theorem pV {o : List Part} (h : aK o) : tsz o<=400:=by
 have h1:=sU o;have h2:=e9 h;have h3:=jE h;have:=h.2;omega
theorem vr {a b : List Part} (ha : aK a) (hb : aK b) (h : bI a = az b) : CInv a b:=by
 have h2:=e9 hb;have h3:=jE ha;exact ⟨ha.1.1,hb.1.1,by omega⟩
theorem pY {a b : List Part} (ha : aK a) (hb : aK b) (h : az a = az b) : TInv a b:=by
 have h2:=e9 hb;have h3:=e9 ha;exact ⟨ha.1.1,hb.1.1,by omega⟩
open Classical in
noncomputable def aM (a b : List Part) : List Part × Bool:=
 if aK a/\aK b/\bI a = az b then (if aK (normal (cmp a b)) then (normal (cmp a b),true) else ([],false)) else ([],false)
open Classical in
noncomputable def ab (a b : List Part) : List Part × List Part × Bool:=
 if aK a/\aK b/\az a = az b then (if aK (normal (xf a b).1)/\aK (normal (xf a b).2) then (normal (xf a b).1,normal (xf a b).2,true) else ([],[],false)) else ([],[],false)
def ae (d : Doc) : Int:=Go.IntKind.i64.wrap (d.fr + d.list.length)
def aD (r : Rep) : Prop:=(1<=r.client/\r.client<=8)/\(0<=r.seq/\r.seq<=999999999)/\(0<=r.rev/\r.rev<=999999999)/\bX r.text/\dp r.sent/\dp r.buf/\az r.sent = r.text.length/\az r.buf = bI r.sent/\(if r.has then r.seq≠0 else eB r.sent)
theorem bR (r : Rep) (hl : bk r<=2 ^ 40) : aB Try.prog 11 [.agg r.row] (.one (.c (vb (aD r)) 1)):=by
 refine pci aj Try.func11 (λw0 base=>?_);unfold bk at hl;simp [Rep.row];intros;refine aa.pure (aU r.client 1 8) (by simp) ?_;by_cases c1 : 1<=r.client/\r.client<=8
 rotate_left
 ·have e : dc (1<=r.client/\r.client<=8) = false:=by rw [bg];exact c1
  have hn : dc (aD r) = false:=by rw [bg];exact λh=>c1 h.1
  simp [e,hn]
 simp [c1];refine aa.pure (aU r.seq 0 999999999) (by simp) ?_;by_cases c2 : 0<=r.seq/\r.seq<=999999999
 rotate_left
 ·have e : dc (0<=r.seq/\r.seq<=999999999) = false:=by rw [bg];exact c2
  have hn : dc (aD r) = false:=by rw [bg];exact λh=>c2 h.2.1
  simp [e,hn]
 simp [c2];refine aa.pure (aU r.rev 0 999999999) (by simp) ?_;by_cases c3 : 0<=r.rev/\r.rev<=999999999
 rotate_left
 ·have e : dc (0<=r.rev/\r.rev<=999999999) = false:=by rw [bg];exact c3
  have hn : dc (aD r) = false:=by rw [bg];exact λh=>c3 h.2.2.1
  simp [e,hn]
 simp [c3];refine aa.pure (fu r.text (by omega)) (by simp) ?_;by_cases c4 : bX r.text
 rotate_left
 ·have hn : dc (aD r) = false:=by rw [bg];exact λh=>c4 h.2.2.2.1
  simp [c4,hn]
 simp [c4];refine aa.pure (gZ r.sent (by omega)) (by simp) ?_;by_cases c5 : dp r.sent
 rotate_left
 ·have hn : dc (aD r) = false:=by rw [bg];exact λh=>c5 h.2.2.2.2.1
  simp [c5,hn]
 simp [c5];refine aa.pure (gZ r.buf (by omega)) (by simp) ?_;by_cases c6 : dp r.buf
 rotate_left
 ·have hn : dc (aD r) = false:=by rw [bg];exact λh=>c6 h.2.2.2.2.2.1
  simp [c6,hn]
 simp [c6];refine aR.quiet eok mix (by kernel_rfl) ?_;simp;refine ⟨_,_,cu r.sent (by omega),by simp,?_⟩;by_cases c7 : az r.sent = r.text.length
 rotate_left
 ·have hn : dc (aD r) = false:=by rw [bg];exact λh=>c7 h.2.2.2.2.2.2.1
  simp [c7,hn]
 simp [c7];refine ⟨_,_,cu r.buf (by omega),by simp,?_⟩;simp;refine ⟨_,_,gY r.sent (by omega),by simp,?_⟩;by_cases c8 : az r.buf = bI r.sent
 rotate_left
 ·have hn : dc (aD r) = false:=by rw [bg];exact λh=>c8 h.2.2.2.2.2.2.2.1
  simp [c8,hn]
 simp [c8]
 cases ch : r.has
 ·have e : dc (aD r) = dc (eB r.sent):=kN ⟨λh=>by have:=h.2.2.2.2.2.2.2.2;rw [ch] at this;simpa using this,λh=>⟨c1,c2,c3,c4,c5,c6,c7,c8,by rw [ch];simpa using h⟩⟩
  simp;refine aa.pure (jM r.sent (by omega)) (by simp) ?_;simp;exact e
 ·have e : dc (aD r) = dc (r.seq≠0):=kN ⟨λh=>by have:=h.2.2.2.2.2.2.2.2;rw [ch] at this;simpa using this,λh=>⟨c1,c2,c3,c4,c5,c6,c7,c8,by rw [ch];simpa using h⟩⟩
  simp [e];by_cases h0 : r.seq = 0<;>simp [h0]
def ej (r : Rep) : Prop:=aD r/\r.has = false/\eB r.buf
theorem np (r : Rep) (hl : bk r<=2 ^ 40) : aB Try.prog 18 [.agg r.row] (.one (.c (vb (ej r)) 1)):=by
 refine pci aj Try.func18 (λw0 base=>?_);simp [Rep.row];intros;refine aa.pure (bR r hl) (by simp [Rep.row]) ?_;unfold bk at hl;by_cases c1 : aD r
 rotate_left
 ·simp [c1,ej]
 simp [c1]
 cases ch : r.has
 ·simp
  refine aa.pure (jM r.buf (by omega)) (by simp) ?_;simp [ej,c1,ch]
 ·simp [ch,ej]
theorem eP (l : List Int) (hl : l.length<=2 ^ 40) : aB Try.prog 71 [.c (.s (l.map aN))] (.one (.c (.s (l.map aN)) 1)):=by
 refine pci aj Try.func71 (λw0 base=>?_);simp;omega
def Rep.zero : Rep:=⟨0,0,0,[],false,[],[]⟩
noncomputable def ah (c s v : Int) (t : List Int) : Rep:=⟨c,s,v,t,false,ar t.length,ar t.length⟩
open Classical in
noncomputable def eF (r : Rep) : Rep × Bool:=if aD r then (r,true) else (Rep.zero,false)
noncomputable def bJ (c s v : Int) (t : List Int) : Rep × Bool:=eF (ah c s v t)
theorem lj (n : Int) : nL aC (ar n)<=1:=by
 unfold ar
 split<;>simp [nL,bj,aC]
theorem o5 (c s v : Int) (t : List Int) : bk (ah c s v t)<=t.length + 2:=by
 have h:=lj t.length;unfold bk ah;simp only;omega
theorem Rep.zero_n : bk Rep.zero = 0:=rfl
theorem kB (a0 a1 a2 : Int) (a3 : List Int) (n3 : a3.length<=2 ^ 20) :
 aB Try.prog 56 [.c (vi a0),.c (vi a1),.c (vi a2),.c (.s (a3.map aN))] (.tup [.agg (bJ a0 a1 a2 a3).1.res,.c (.v (.bool (bJ a0 a1 a2 a3).2)) 1]):=by
 refine pci aj Try.func56 (λw0 base=>?_);simp;intro b8;refine aa.pure (eP a3 (by omega)) (by simp) ?_;simp;intro H1;refine aa.pure (eU a3.length) (by simp) ?_;simp;intro H2;refine aa.pure (eU a3.length) (by simp) ?_;simp;intro H3;refine inl aj Try.func33 20000 (λw1 F=>?_);simp;intros;have hn:=o5 a0 a1 a2 a3;refine aa.pure (bR (ah a0 a1 a2 a3) (by omega)) (by simp [Rep.row,ah]) ?_;by_cases h : aD (ah a0 a1 a2 a3)
 ·have e : bJ a0 a1 a2 a3 = (ah a0 a1 a2 a3,true):=by unfold bJ eF;rw [if_pos h]
  simp [h,e,Rep.res];simp [ah]
 ·have e : bJ a0 a1 a2 a3 = (Rep.zero,false):=by unfold bJ eF;rw [if_neg h]
  have e2 : dc (aD (ah a0 a1 a2 a3)) = false:=by rw [bg];exact h
  simp [e2,e,Rep.res,Rep.zero]
theorem qo (a0 : Int) (_ : nr a0) (a1 : Int) (_ : nr a1) (a2 : Int) (_ : nr a2) (a3 : List Int) (_ : a3.length<=9223372036854775807/\∀ n∈a3,nr n) (n3 : a3.length<=2 ^ 20) : aB Try.prog 56 [.c (vi a0),.c (vi a1),.c (vi a2),.c (.s (a3.map aN))] (.tup [.agg (bJ a0 a1 a2 a3).1.res,.c (.v (.bool (bJ a0 a1 a2 a3).2)) 1]):=kB a0 a1 a2 a3 n3
theorem jb {α β : Type} {f : α->β} {l : List α} {i : Nat} (h : i < l.length) : List.take i (l.map f) ++ [f l[i]] = List.take (i + 1) (l.map f):=by
 rw [List.take_add_one];simp [h]
theorem iU (o : List Part) (hl : nL aC o<=2 ^ 30) : aB Try.prog 72 [.c (.s (o.map Part.row))] (.one (.c (.s (o.map Part.row)) 3)):=by
 refine pci aj Try.func72 (λw0 base=>?_);have hle:=dY hl;simp;refine bp.intro eok (λx : Nat × Hd=>x.1<=o.length) (λx=>⟨22,0,[(8,.v (.int .i64 x.1)),(7,.v (.int .i64 o.length)),(6,.ro (o.map Part.row)),(3,.sl 304 x.2 3 0 x.1)],[(304,.rows x.2 3 ((o.take x.1).map Part.row) true)]⟩) (λx=>o.length - x.1) (0,none) (by simp) (by simp) (λx hi=>?_);obtain ⟨i,H⟩:=x;simp only at hi ⊢;by_cases h : i < o.length
 ·have e : Go.IntKind.i64.wrap ((i : Int) + 1) = ((i + 1 : Nat) : Int):=aY (by omega)
  have hm : min i o.length = i:=by omega
  have hs:=pf hl h;simp [h,Part.row];intro b5;refine aa.pure (eP o[i].signs (by unfold aC at hs;omega)) (by simp) ?_;simp [hm];exact ⟨by omega,λH3=>⟨i + 1,by omega,by omega,H3,⟨e,rfl,rfl⟩,rfl,jb (f:=Part.row) h⟩⟩
 ·have : i = o.length:=by omega
  subst this;simp [cut]
def Call.zero : Call:=⟨0,⟨#[]⟩,0,0,0,[],[]⟩
def iy (r : Rep) : Call:=⟨2,⟨#[]⟩,r.client,r.seq,r.rev,r.sent,[]⟩
theorem mT (r : Rep) (hl : bk r<=2 ^ 30) : aB Try.prog 42 [.agg r.row] (.one (.agg (iy r).res)):=by
 refine pci aj Try.func42 (λw0 base=>?_);unfold bk at hl;simp [Rep.row];intros;refine drw eok mix [0,1,2,3,4,5,6,7] [8,9,10] (.c 8 8 1 254 (.c 8 9 84 170 (.c 8 10 170 0 (.l 8 0) .s) .s) .s) ?_;simp;refine aa.pure (iU r.sent (by omega)) (by simp) ?_;simp [iy,Call.res]
theorem Call.zero_n : FT Call.zero = 0:=rfl
end Go.Proofs.Ytoldjebobgocpaa
