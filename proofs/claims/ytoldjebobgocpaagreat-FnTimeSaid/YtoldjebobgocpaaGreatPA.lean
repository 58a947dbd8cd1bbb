import Derived.Test.YtoldjebobgocpaaGreatNA
import Derived.Test.YtoldjebobgocpaaGreatMF
namespace Go.Proofs.YtoldjebobgocpaaGreat
open Go.AM
set_option maxRecDepth 20000
theorem aO (n lo hi : Int) : aj Tryz.prog 112 [.c (vi n),.c (vi lo),.c (vi hi)] (.one (.c (vb (lo<=n/\n<=hi)) 1)):=by
 refine pci ae Tryz.func112 (λw0 base=>?_);by_cases h1 : lo<=n<;>by_cases h2 : n<=hi<;>simp [h1,h2]
theorem aZ (n lo hi : Int) : aj Tryz.prog 67 [.c (vi n),.c (vi lo),.c (vi hi)] (.one (.c (vb (lo<=n/\n<=hi)) 1)):=by
 refine pci ae Tryz.func67 (λw0 base=>?_);by_cases h1 : lo<=n<;>by_cases h2 : n<=hi<;>simp [h1,h2]
def fN (n : Int) : Prop:=(0<=n/\n<=1114111)/\¬ (55296<=n/\n<=57343)
def dS (l : List Int) : Prop:=∀ n∈l,fN n
theorem ww (n : Int) : aj Tryz.prog 360 [.c (vi n)] (.one (.c (vb (fN n)) 1)):=by
 refine pci ae Tryz.func360 (λw0 base=>?_);simp;refine aa.pure (aO n 0 1114111) (by simp) ?_;by_cases h : 0<=n/\n<=1114111
 ·simp [h]
  refine aa.pure (aO n 55296 57343) (by simp) ?_;by_cases h2 : 55296<=n/\n<=57343<;>simp [h2,fN,h]
  try (rw [jC];omega)
 ·have e : dc (0<=n/\n<=1114111) = false:=by rw [cJ];exact h
  simp [fN,h]
theorem vW (n : Int) : aj Tryz.prog 359 [.c (vi n)] (.one (.c (vb (fN n)) 1)):=by
 refine pci ae Tryz.func359 (λw0 base=>?_);simp;refine aa.pure (aZ n 0 1114111) (by simp) ?_;by_cases h : 0<=n/\n<=1114111
 ·simp [h]
  refine aa.pure (aZ n 55296 57343) (by simp) ?_;by_cases h2 : 55296<=n/\n<=57343<;>simp [h2,fN,h]
  try (rw [jC];omega)
 ·have e : dc (0<=n/\n<=1114111) = false:=by rw [cJ];exact h
  simp [fN,h]
theorem ir {α : Type} {P : α->Prop} {l : List α} {i : Nat} (h : i < l.length) (ha : ∀ a∈l.take i,P a) (hi : P l[i]) : ∀ a∈l.take (i + 1),P a:=by
 rw [<- List.take_append_getElem h];intro a ha';rcases List.mem_append.1 ha' with h1 | h1
 ·exact ha a h1
 ·simp at h1;subst h1;exact hi
theorem jU {α : Type} {P : α->Prop} {l : List α} {i : Nat} (h : l.length<=i) (ha : ∀ a∈l.take i,P a) : ∀ a∈l,P a:=by
 rwa [List.take_of_length_le h] at ha
theorem rM {α : Type} {P : α->Prop} {l : List α} {i : Nat} (h : i < l.length) (hi : ¬ P l[i]) : ¬ ∀ a∈l,P a:=λha=>hi (ha _ (List.getElem_mem h))
theorem nO (l : List Int) (hl : l.length<=2 ^ 40) : aj Tryz.prog 298 [.c (.s (l.map ak))] (.one (.c (vb (dS l)) 1)):=by
 refine pci ae Tryz.func298 (λw0 base=>?_);simp;refine au.intro eok (λi : Nat=>i<=l.length/\∀ n∈l.take i,fN n) (λi=>⟨15,0,[(7,.v (.int .i64 i)),(6,.v (.int .i64 l.length)),(5,.ro (l.map ak))],[]⟩) (λi=>l.length - i) 0 (by simp) (by simp) (λi hi=>?_);by_cases h : i < l.length
 ·simp [h]
  refine aa.pure (ww l[i]) (by simp) ?_;simp;refine Br.mk (λh1=>?_) (λh1=>?_)
  ·simp
   exact ⟨i + 1,⟨by omega,ir h hi.2 (mn h1)⟩,by omega,ah (by omega)⟩
  ·simp [cJ]
   exact rM h (qM h1)
 ·simp [h,jC]
  exact jU (by omega) hi.2
theorem nG (l : List Int) (hl : l.length<=2 ^ 40) : aj Tryz.prog 295 [.c (.s (l.map ak))] (.one (.c (vb (dS l)) 1)):=by
 refine pci ae Tryz.func295 (λw0 base=>?_);simp;refine au.intro eok (λi : Nat=>i<=l.length/\∀ n∈l.take i,fN n) (λi=>⟨15,0,[(7,.v (.int .i64 i)),(6,.v (.int .i64 l.length)),(5,.ro (l.map ak))],[]⟩) (λi=>l.length - i) 0 (by simp) (by simp) (λi hi=>?_);by_cases h : i < l.length
 ·simp [h]
  refine aa.pure (vW l[i]) (by simp) ?_;simp;refine Br.mk (λh1=>?_) (λh1=>?_)
  ·simp
   exact ⟨i + 1,⟨by omega,ir h hi.2 (mn h1)⟩,by omega,ah (by omega)⟩
  ·simp [cJ]
   exact rM h (qM h1)
 ·simp [h,jC]
  exact jU (by omega) hi.2
def ap (p : Part) : Prop:=((p.kind = 1\/p.kind = 3)/\(0<=p.n/\p.n<=200)/\p.signs = [])\/(p.kind = 2/\p.n = 0/\p.signs.length<=200/\dS p.signs)
theorem qK {p : Part} (h : p.kind = 1\/p.kind = 3) : ap p = ((0<=p.n/\p.n<=200)/\p.signs = []):=by
 have h2 : ¬ p.kind = 2:=by omega
 simp [ap,h,h2]
theorem ga {p : Part} (h : p.kind = 2) : ap p = (p.n = 0/\p.signs.length<=200/\dS p.signs):=by simp [ap,h]
theorem u7 {p : Part} (h1 : p.kind≠1) (h2 : p.kind≠2) (h3 : p.kind≠3) : ¬ ap p:=by simp [ap,h1,h2,h3]
theorem wD (p : Part) (hl : p.signs.length<=2 ^ 40) : aj Tryz.prog 297 [.agg p.row] (.one (.c (vb (ap p)) 1)):=by
 refine pci ae Tryz.func297 (λw0 base=>?_);simp [Part.row];intros;by_cases h13 : p.kind = 1\/p.kind = 3
 ·rw [qK h13]
  rcases h13 with h | h
  ·simp [h]
   refine aa.pure (aO p.n 0 200) (by simp) ?_;by_cases hn : 0<=p.n/\p.n<=200
   ·simp [hn]
   ·have e : dc (0<=p.n/\p.n<=200) = false:=by rw [cJ];exact hn
    simp [hn]
  ·simp [h]
   refine aa.pure (aO p.n 0 200) (by simp) ?_;by_cases hn : 0<=p.n/\p.n<=200
   ·simp [hn]
   ·have e : dc (0<=p.n/\p.n<=200) = false:=by rw [cJ];exact hn
    simp [hn]
 ·have h1 : ¬ p.kind = 1:=λh=>h13 (.inl h)
  have h3 : ¬ p.kind = 3:=λh=>h13 (.inr h)
  by_cases h2 : p.kind = 2
  ·rw [ga h2]
   simp [h2];by_cases hn : p.n = 0
   ·by_cases hs : p.signs.length<=200
    ·have hs' : (p.signs.length : Int)<=200:=by omega
     simp [hn,hs'];refine aa.pure (nO p.signs hl) (by simp) ?_;simp [hs]
    ·have hs' : ¬ (p.signs.length : Int)<=200:=by omega
     simp [hn,hs',hs]
   ·simp [hn]
  ·simp [h1,h2,h3,u7]
theorem vY (p : Part) (hl : p.signs.length<=2 ^ 40) : aj Tryz.prog 294 [.agg p.row] (.one (.c (vb (ap p)) 1)):=by
 refine pci ae Tryz.func294 (λw0 base=>?_);simp [Part.row];intros;by_cases h13 : p.kind = 1\/p.kind = 3
 ·rw [qK h13]
  rcases h13 with h | h
  ·simp [h]
   refine aa.pure (aZ p.n 0 200) (by simp) ?_;by_cases hn : 0<=p.n/\p.n<=200
   ·simp [hn]
   ·have e : dc (0<=p.n/\p.n<=200) = false:=by rw [cJ];exact hn
    simp [hn]
  ·simp [h]
   refine aa.pure (aZ p.n 0 200) (by simp) ?_;by_cases hn : 0<=p.n/\p.n<=200
   ·simp [hn]
   ·have e : dc (0<=p.n/\p.n<=200) = false:=by rw [cJ];exact hn
    simp [hn]
 ·have h1 : ¬ p.kind = 1:=λh=>h13 (.inl h)
  have h3 : ¬ p.kind = 3:=λh=>h13 (.inr h)
  by_cases h2 : p.kind = 2
  ·rw [ga h2]
   simp [h2];by_cases hn : p.n = 0
   ·simp [hn]
    refine aa.pure (nG p.signs hl) (by simp) ?_;have e : ((p.signs.length : Int)<=200) = (p.signs.length<=200):=by simp;omega
    by_cases hg : dS p.signs
    ·simp [hg,e]
    ·simp [hg]
   ·simp [hn]
  ·simp [h1,h2,h3,u7]
def cW (o : List Part) : Prop:=(∀ p∈o,ap p)/\o.length<=600
theorem kf (o : List Part) (hl : nL aF o<=2 ^ 40) : aj Tryz.prog 213 [.c (.s (o.map Part.row))] (.one (.c (vb (cW o)) 1)):=by
 refine pci ae Tryz.func213 (λw0 base=>?_);have hle:=aA hl;simp;refine au.intro eok (λi : Nat=>i<=o.length/\∀ p∈o.take i,ap p) (λi=>⟨18,0,[(7,.v (.int .i64 i)),(6,.v (.int .i64 o.length)),(5,.ro (o.map Part.row)),(0,.ro (o.map Part.row))],[]⟩) (λi=>o.length - i) 0 (by simp) (by simp) (λi hi=>?_);by_cases h : i < o.length
 ·simp [h,Part.row]
  intros;refine aa.pure (wD o[i] (dB hl h)) (by simp [Part.row]) ?_;simp;refine Br.mk (λh1=>?_) (λh1=>?_)
  ·simp
   exact ⟨i + 1,⟨by omega,ir h hi.2 (mn h1)⟩,by omega,ah (by omega)⟩
  ·simp [cJ]
   exact λhp=>rM h (qM h1) hp.1
 ·have ha:=jU (by omega) hi.2
  simp [h];refine tv ?_;unfold cW;exact ⟨λh=>by have:=h.2;omega,λh=>⟨ha,by omega⟩⟩
theorem j7 (o : List Part) (hl : nL aF o<=2 ^ 40) : aj Tryz.prog 208 [.c (.s (o.map Part.row))] (.one (.c (vb (cW o)) 1)):=by
 refine pci ae Tryz.func208 (λw0 base=>?_);have hle:=aA hl;simp;refine au.intro eok (λi : Nat=>i<=o.length/\∀ p∈o.take i,ap p) (λi=>⟨18,0,[(7,.v (.int .i64 i)),(6,.v (.int .i64 o.length)),(5,.ro (o.map Part.row)),(0,.ro (o.map Part.row))],[]⟩) (λi=>o.length - i) 0 (by simp) (by simp) (λi hi=>?_);by_cases h : i < o.length
 ·simp [h,Part.row]
  intros;refine aa.pure (vY o[i] (dB hl h)) (by simp [Part.row]) ?_;simp;refine Br.mk (λh1=>?_) (λh1=>?_)
  ·simp
   exact ⟨i + 1,⟨by omega,ir h hi.2 (mn h1)⟩,by omega,ah (by omega)⟩
  ·simp [cJ]
   exact λhp=>rM h (qM h1) hp.1
 ·have ha:=jU (by omega) hi.2
  simp [h];refine tv ?_;unfold cW;exact ⟨λh=>by have:=h.2;omega,λh=>⟨ha,by omega⟩⟩
def cC (f : Part->Int) : List Part->Int
 | []=>0
 | p :: o=>f p + cC f o
theorem qD {f : Part->Int} : ∀ (a b : List Part),cC f (a ++ b) = cC f a + cC f b
 | [],b=>by simp [cC]
 | p :: a,b=>by simp only [List.cons_append,cC,qD a b];omega
theorem fS {f : Part->Int} {o : List Part} {i : Nat} (h : i < o.length) : cC f (o.take (i + 1)) = cC f (o.take i) + f o[i]:=by
 rw [<- List.take_append_getElem h,qD];simp [cC]
theorem f9 {f g : Part->Int} : ∀ {o : List Part},(∀ p∈o,f p = g p)->cC f o = cC g o
 | [],_=>rfl
 | p :: o, h => by
   simp only [cC];rw [h p (List.mem_cons_self ..),f9 (λq hq=>h q (List.mem_cons_of_mem _ hq))]
theorem jk {f g : Part->Int} : ∀ (o : List Part),cC (λp=>f p + g p) o = cC f o + cC g o
 | []=>by simp [cC]
 | p :: o=>by simp only [cC,jk o];omega
def fK (p : Part) : Int:=if p.kind = 1 then p.n else 0
def fP (p : Part) : Int:=if p.kind = 2 then p.signs.length else 0
def fD (p : Part) : Int:=if p.kind = 1 then 0 else if p.kind = 2 then 0 else p.n
def lI (k : Int) (p : Part) : Int:=if p.kind = k then 0 else p.n + p.signs.length
theorem ap.bounds {p : Part} (h : ap p) : (p.kind = 1\/p.kind = 2\/p.kind = 3)/\0<=p.n/\p.n<=200/\p.signs.length<=200/\(p.kind = 2->p.n = 0)/\(p.kind≠2->p.signs = []):=by
 rcases h with ⟨h1,h2,h3⟩ | ⟨h1,h2,h3,h4⟩
 ·refine ⟨by omega,by omega,by omega,by simp [h3],by omega,λ_=>h3⟩
 ·refine ⟨by omega,by omega,by omega,h3,λ_=>h2,λh=>absurd h1 h⟩
theorem MG {p : Part} (h : ap p) : lI 2 p = fK p + fD p:=by
 obtain ⟨h1,h2,h3,h4,h5,h6⟩:=h.bounds;unfold lI fK fD;by_cases k2 : p.kind = 2
 ·simp [k2]
 ·by_cases k1 : p.kind = 1<;>simp [k1,k2,h6 k2]
theorem MF {p : Part} (h : ap p) : lI 3 p = fK p + fP p:=by
 obtain ⟨h1,h2,h3,h4,h5,h6⟩:=h.bounds;unfold lI fK fP;rcases h1 with k | k | k
 ·simp [k,h6 (by omega)]
 ·simp [k,h5 k]
 ·simp [k]
theorem d8 {f : Part->Int} {B : Int} (hf : ∀ p,ap p->0<=f p/\f p<=B) : ∀ {o : List Part},(∀ p∈o,ap p)->0<=cC f o/\cC f o<=B * o.length
 | [],_=>by simp [cC]
 | p :: o, h => by
   have h1:=hf p (h p (List.mem_cons_self ..));have h2:=d8 hf (o:=o) (λq hq=>h q (List.mem_cons_of_mem _ hq));simp only [cC,List.length_cons];rw [show B * ((o.length + 1 : Nat) : Int) = B * o.length + B by rw [Int.natCast_add];simp [Int.mul_add]];omega
theorem Gy {p : Part} (h : ap p) : 0<=fK p/\fK p<=200:=by have:=h.bounds;unfold fK;split<;>omega
theorem PA {p : Part} (h : ap p) : 0<=fP p/\fP p<=200:=by have:=h.bounds;unfold fP;split<;>omega
theorem GB {p : Part} (h : ap p) : 0<=fD p/\fD p<=200:=by have:=h.bounds;unfold fD;split<;>(try split)<;>omega
theorem My {k : Int} {p : Part} (h : ap p) : 0<=lI k p/\lI k p<=400:=by have:=h.bounds;unfold lI;split<;>omega
theorem mT {o : List Part} (h : ∀ p∈o,ap p) (i : Nat) : ∀ p∈o.take i,ap p:=λp hp=>h p (List.mem_of_mem_take hp)
theorem Lx (p : Part) (hp : ap p) : aj Tryz.prog 328 [.agg p.row] (.one (.c (vi (p.n + p.signs.length)) 1)):=by
 refine pci ae Tryz.func328 (λw0 base=>?_);have:=hp.bounds;have e : Go.IntKind.i64.wrap (p.n + (p.signs.length : Int)) = p.n + p.signs.length:=Go.IntWalk.i64_in _ (by omega);simp [Part.row,e]
open Classical in
noncomputable def sizeOf (o : List Part) (k : Int) : Int:=if cW o then cC (lI k) o else 0
theorem o6 (o : List Part) (hl : nL aF o<=2 ^ 40) (k : Int) : aj Tryz.prog 331 [.c (.s (o.map Part.row)),.c (vi k)] (.one (.c (vi (sizeOf o k)) 1)):=by
 refine pci ae Tryz.func331 (λw0 base=>?_);have hle:=aA hl;simp;refine aa.pure (kf o hl) (by simp) ?_;by_cases ho : cW o
 ·have hr : sizeOf o k = cC (lI k) o:=by unfold sizeOf;rw [if_pos ho]
  simp [ho,hr];refine au.intro eok (λi : Nat=>i<=o.length) (λi=>⟨27,0,[(13,.v (.int .i64 i)),(12,.v (.int .i64 o.length)),(11,.ro (o.map Part.row)),(5,.v (.int .i64 (cC (lI k) (o.take i)))),(1,.v (.int .i64 k))],[]⟩) (λi=>o.length - i) 0 (by simp) (by simp [cC]) (λi hi=>?_);by_cases h : i < o.length
  ·have hp:=ho.1 _ (List.getElem_mem h)
   have hb:=d8 (f:=lI k) (λp h=>My h) (mT ho.1 i);have hb2:=hp.bounds;have hlen:=ho.2;have hlt : (o.take i).length<=600:=by simp;omega
   have hs:=fS (f:=lI k) h;obtain ⟨q,hq⟩ : ∃ q,cC (lI k) (o.take i) = q:=⟨_,rfl⟩;have e : Go.IntKind.i64.wrap ((i : Int) + 1) = ((i + 1 : Nat) : Int):=ah (by omega);rw [hq] at hs hb;simp [h,Part.row,hq];intros;by_cases hk : o[i].kind = k
   ·simp [hk]
    refine ⟨i + 1,by omega,by omega,e,?_⟩;rw [hs];simp [lI,hk]
   ·simp [hk]
    refine aa.pure (Lx o[i] hp) (by simp [Part.row]) ?_;have e2 : Go.IntKind.i64.wrap (q + (o[i].n + (o[i].signs.length : Int))) = q + (o[i].n + o[i].signs.length):=Go.IntWalk.i64_in _ (by omega);simp [e2];refine ⟨i + 1,by omega,by omega,e,?_⟩;rw [hs];simp [lI,hk]
  ·simp [h]
   rw [List.take_of_length_le (by omega)]
 ·have e : dc (cW o) = false:=by rw [cJ];exact ho
  have hr : sizeOf o k = 0:=by unfold sizeOf;rw [if_neg ho]
  simp [e,hr]
open Classical in
noncomputable def cI (o : List Part) : Int × Int × Int:=if cW o then (cC fK o,cC fP o,cC fD o) else (0,0,0)
theorem yF (o : List Part) (hl : nL aF o<=2 ^ 40) : aj Tryz.prog 325 [.c (.s (o.map Part.row))] (.tup [.c (vi (cI o).1) 1,.c (vi (cI o).2.1) 1,.c (vi (cI o).2.2) 1]):=by
 refine pci ae Tryz.func325 (λw0 base=>?_);have hle:=aA hl;simp;refine aa.pure (j7 o hl) (by simp) ?_;by_cases ho : cW o
 ·have hr : cI o = (cC fK o,cC fP o,cC fD o):=by unfold cI;rw [if_pos ho]
  simp [ho,hr];refine au.intro eok (λi : Nat=>i<=o.length) (λi=>⟨42,0,[(15,.v (.int .i64 i)),(14,.v (.int .i64 o.length)),(13,.ro (o.map Part.row)),(5,.v (.int .i64 (cC fK (o.take i)))),(6,.v (.int .i64 (cC fP (o.take i)))),(7,.v (.int .i64 (cC fD (o.take i))))],[]⟩) (λi=>o.length - i) 0 (by simp) (by simp [cC]) (λi hi=>?_);by_cases h : i < o.length
  ·have hp:=ho.1 _ (List.getElem_mem h)
   have hb1:=d8 (f:=fK) (λp h=>Gy h) (mT ho.1 i);have hb2:=d8 (f:=fP) (λp h=>PA h) (mT ho.1 i);have hb3:=d8 (f:=fD) (λp h=>GB h) (mT ho.1 i);have hpb:=hp.bounds;have hlen:=ho.2;have hlt : (o.take i).length<=600:=by simp;omega
   have hs1:=fS (f:=fK) h;have hs2:=fS (f:=fP) h;have hs3:=fS (f:=fD) h;obtain ⟨q1,hq1⟩ : ∃ q,cC fK (o.take i) = q:=⟨_,rfl⟩;obtain ⟨q2,hq2⟩ : ∃ q,cC fP (o.take i) = q:=⟨_,rfl⟩;obtain ⟨q3,hq3⟩ : ∃ q,cC fD (o.take i) = q:=⟨_,rfl⟩;have e : Go.IntKind.i64.wrap ((i : Int) + 1) = ((i + 1 : Nat) : Int):=ah (by omega);rw [hq1] at hs1 hb1;rw [hq2] at hs2 hb2;rw [hq3] at hs3 hb3;simp [h,Part.row,hq1,hq2,hq3];intros;have e1 : Go.IntKind.i64.wrap (q1 + o[i].n) = q1 + o[i].n:=Go.IntWalk.i64_in _ (by omega);have e2 : Go.IntKind.i64.wrap (q2 + (o[i].signs.length : Int)) = q2 + o[i].signs.length:=Go.IntWalk.i64_in _ (by omega);have e3 : Go.IntKind.i64.wrap (q3 + o[i].n) = q3 + o[i].n:=Go.IntWalk.i64_in _ (by omega);by_cases k1 : o[i].kind = 1
   ·simp [k1,e1]
    refine ⟨i + 1,by omega,by omega,e,?_,?_,?_⟩
    ·rw [hs1];simp [fK,k1]
    ·rw [hs2];simp [fP,k1]
    ·rw [hs3];simp [fD,k1]
   ·by_cases k2 : o[i].kind = 2
    ·simp [k2,e2]
     refine ⟨i + 1,by omega,by omega,e,?_,?_,?_⟩
     ·rw [hs1];simp [fK,k2]
     ·rw [hs2];simp [fP,k2]
     ·rw [hs3];simp [fD,k2]
    ·simp [k1,k2,e3]
     refine ⟨i + 1,by omega,by omega,e,?_,?_,?_⟩
     ·rw [hs1];simp [fK,k1]
     ·rw [hs2];simp [fP,k2]
     ·rw [hs3];simp [fD,k1,k2]
  ·simp [h]
   rw [List.take_of_length_le (by omega)];simp
 ·have e : dc (cW o) = false:=by rw [cJ];exact ho
  have hr : cI o = (0,0,0):=by unfold cI;rw [if_neg ho]
  simp [e,hr]
noncomputable def br (o : List Part) : Int:=(cI o).1 + (cI o).2.2
noncomputable def jJ (o : List Part) : Int:=(cI o).1 + (cI o).2.1
theorem yp (o : List Part) : sizeOf o 2 = br o:=by
 unfold sizeOf br cI
 split
 ·rename_i h
  show _ = cC fK o + cC fD o
  rw [<- jk];exact f9 (λp hp=>MG (h.1 p hp))
 ·rfl
theorem CE (o : List Part) : sizeOf o 3 = jJ o:=by
 unfold sizeOf jJ cI
 split
 ·rename_i h
  show _ = cC fK o + cC fP o
  rw [<- jk];exact f9 (λp hp=>MF (h.1 p hp))
 ·rfl
theorem yG (o : List Part) : (0<=(cI o).1/\(cI o).1<=120000)/\(0<=(cI o).2.1/\(cI o).2.1<=120000)/\0<=(cI o).2.2/\(cI o).2.2<=120000:=by
 unfold cI
 split
 ·rename_i h
  have h1:=d8 (f:=fK) (λp h=>Gy h) h.1;have h2:=d8 (f:=fP) (λp h=>PA h) h.1;have h3:=d8 (f:=fD) (λp h=>GB h) h.1;have h4:=h.2;simp only;omega
 ·simp
theorem gK (o : List Part) (hl : nL aF o<=2 ^ 40) : aj Tryz.prog 253 [.c (.s (o.map Part.row))] (.one (.c (vi (br o)) 1)):=by
 refine pci ae Tryz.func253 (λw0 base=>?_);simp;refine aa.pure (o6 o hl 2) (by simp) ?_;simp [yp]
theorem AD (o : List Part) (hl : nL aF o<=2 ^ 40) : aj Tryz.prog 245 [.c (.s (o.map Part.row))] (.one (.c (vi (jJ o)) 1)):=by
 refine pci ae Tryz.func245 (λw0 base=>?_);simp;refine aa.pure (o6 o hl 3) (by simp) ?_;simp [CE]
theorem gD (o : List Part) (hl : nL aF o<=2 ^ 40) : aj Tryz.prog 387 [.c (.s (o.map Part.row))] (.one (.c (vi (br o)) 1)):=by
 refine pci ae Tryz.func387 (λw0 base=>?_);simp;refine aa.pure (yF o hl) (by simp) ?_;have:=yG o;have e : Go.IntKind.i64.wrap ((cI o).1 + (cI o).2.2) = br o:=Go.IntWalk.i64_in _ (by omega);simp [e]
theorem zO (o : List Part) (hl : nL aF o<=2 ^ 40) : aj Tryz.prog 240 [.c (.s (o.map Part.row))] (.one (.c (vi (jJ o)) 1)):=by
 refine pci ae Tryz.func240 (λw0 base=>?_);simp;refine aa.pure (yF o hl) (by simp) ?_;have:=yG o;have e : Go.IntKind.i64.wrap ((cI o).1 + (cI o).2.1) = jJ o:=Go.IntWalk.i64_in _ (by omega);simp [e]
def bN (o : List Part) : Prop:=cW o/\br o<=200/\jJ o<=200
theorem eg (o : List Part) (hl : nL aF o<=2 ^ 40) : aj Tryz.prog 255 [.c (.s (o.map Part.row))] (.one (.c (vb (bN o)) 1)):=by
 refine pci ae Tryz.func255 (λw0 base=>?_);simp;refine aa.pure (kf o hl) (by simp) ?_;by_cases h : cW o
 ·simp [h]
  refine aa.pure (gK o hl) (by simp) ?_;by_cases h1 : br o<=200
  ·simp [h1]
   refine aa.pure (AD o hl) (by simp) ?_;simp [bN,h,h1]
  ·simp [h1,bN,h]
 ·simp [h,bN]
theorem d9 (o : List Part) (hl : nL aF o<=2 ^ 40) : aj Tryz.prog 382 [.c (.s (o.map Part.row))] (.one (.c (vb (bN o)) 1)):=by
 refine pci ae Tryz.func382 (λw0 base=>?_);simp;refine aa.pure (j7 o hl) (by simp) ?_;by_cases h : cW o
 ·simp [h]
  refine aa.pure (gD o hl) (by simp) ?_;by_cases h1 : br o<=200
  ·simp [h1]
   refine aa.pure (zO o hl) (by simp) ?_;simp [bN,h,h1]
  ·simp [h1,bN,h]
 ·simp [h,bN]
def aJ (L : List Part) (P : List Int) (D : Int) : List Part:=L ++ ((if P = [] then [] else [⟨2,0,P⟩]) ++ (if 0 < D then [⟨3,D,[]⟩] else []))
def bS (L : List Part) (n : Int) : List Part:=
 if h : 0 < L.length then
  if (L[L.length - 1]'(by omega)).kind = 1 then L.set (L.length - 1) ⟨1,(L[L.length - 1]'(by omega)).n + n,(L[L.length - 1]'(by omega)).signs⟩ else L ++ [⟨1,n,[]⟩]
 else [⟨1,n,[]⟩]
def dm (s : List Part × List Int × Int) (p : Part) : List Part × List Int × Int:=
 if p.kind = 2 then (s.1,s.2.1 ++ p.signs,s.2.2)
 else if p.kind = 3 then (s.1,s.2.1,s.2.2 + p.n)
 else if 0 < p.n then (bS (aJ s.1 s.2.1 s.2.2) p.n,[],0) else s
def a9 (o : List Part) : List Part × List Int × Int:=o.foldl dm ([],[],0)
def normal (o : List Part) : List Part:=aJ (a9 o).1 (a9 o).2.1 (a9 o).2.2
theorem gj {o : List Part} {i : Nat} (h : i < o.length) : a9 (o.take (i + 1)) = dm (a9 (o.take i)) o[i]:=by
 unfold a9;rw [<- List.take_append_getElem h,List.foldl_append];rfl
structure NbOk (m : Nat) (s : List Part × List Int × Int) : Prop where
 l : s.1.length<=3 * m
 p : s.2.1.length<=200 * m
 d0 : 0<=s.2.2
 d : s.2.2<=200 * m
 q : ∀ q∈s.1,0<=q.n/\q.n<=200 * m
theorem gl (L : List Part) (P : List Int) (D : Int) : (aJ L P D).length<=L.length + 2:=by
 unfold aJ
 split<;>split<;>simp
theorem gk {L : List Part} {P : List Int} {D B : Int} (h0 : 0<=D) (hD : D<=B) (hL : ∀ q∈L,0<=q.n/\q.n<=B) : ∀ q∈aJ L P D,0<=q.n/\q.n<=B:=by
 intro q hq;unfold aJ at hq;simp only [List.mem_append] at hq;rcases hq with hq | hq | hq
 ·exact hL q hq
 ·split at hq
  ·simp at hq
  ·simp at hq;subst hq;simp;omega
 ·split at hq
  ·simp at hq;subst hq;simp;omega
  ·simp at hq
theorem kJ {o : List Part} (ho : ∀ p∈o,ap p) : ∀ (i : Nat),i<=o.length->NbOk i (a9 (o.take i))
 | 0, _ => by
   simp [a9];exact ⟨by simp,by simp,by simp,by simp,by simp⟩
 | i + 1, hi => by
   have ih:=kJ ho i (by omega);have hlt : i < o.length:=by omega
   rw [gj hlt];have hp:=(ho _ (List.getElem_mem hlt)).bounds;generalize a9 (o.take i) = s at ih;generalize o[i] = p at hp;obtain ⟨L,P,D⟩:=s;obtain ⟨h1,h2,h3,h4,h5⟩:=ih;simp only at h1 h2 h3 h4 h5;have w : ∀ q∈L,0<=q.n/\q.n<=200 * ((i + 1 : Nat) : Int):=λq hq=>by have:=h5 q hq;omega
   unfold dm
   split
   ·exact ⟨by simp;omega,by simp;omega,h3,by simp;omega,w⟩
   ·split
    ·exact ⟨by simp;omega,by simp;omega,by simp;omega,by simp;omega,w⟩
    ·split
     ·have f1:=gl L P D
      have f2:=gk (P:=P) h3 h4 h5;refine ⟨?_,by simp,by simp,by simp;omega,?_⟩
      ·simp only [bS]
       split
       ·split<;>simp<;>omega
       ·simp;omega
      ·simp only [bS]
       intro q hq
       split at hq
       ·split at hq
        ·rcases List.mem_or_eq_of_mem_set hq with hq | rfl
         ·have:=f2 q hq;omega
         ·have:=f2 _ (List.getElem_mem (show (aJ L P D).length - 1 < (aJ L P D).length by omega))
          simp only;omega
        ·rcases List.mem_append.1 hq with hq | hq
         ·have:=f2 q hq;omega
         ·simp at hq;subst hq;simp;omega
       ·simp at hq;subst hq;simp;omega
     ·exact ⟨by simp;omega,by simp;omega,h3,by simp;omega,w⟩
theorem qe {L : List Part} {P : List Int} {D : Int} (hP : ¬ P = []) (hD : 0 < D) : aJ L P D = L ++ [⟨2,0,P⟩] ++ [⟨3,D,[]⟩]:=by simp [aJ,hP,hD]
theorem qb {L : List Part} {P : List Int} {D : Int} (hP : ¬ P = []) (hD : ¬ 0 < D) : aJ L P D = L ++ [⟨2,0,P⟩]:=by simp [aJ,hP,hD]
theorem qa {L : List Part} {P : List Int} {D : Int} (hP : P = []) (hD : 0 < D) : aJ L P D = L ++ [⟨3,D,[]⟩]:=by simp [aJ,hP,hD]
theorem p9 {L : List Part} {P : List Int} {D : Int} (hP : P = []) (hD : ¬ 0 < D) : aJ L P D = L:=by simp [aJ,hP,hD]
theorem mu {w0 : World} {bF bG : Nat->Prop} {bl : Bool} {st : ASt} {dst : Option Nat} {K : ASt->Prop} {L : List Part} {P : List Int} {D : Int} {b3 b4 b5 : Nat} {Hl Hp : Hd} (hL : L.length<=2 ^ 20) (_hP : P.length<=2 ^ 40)
 (g48 : st.h.get 48 = .vars b3 63 [.sl 5000 Hl 3 0 L.length]) (g64 : st.h.get 64 = .vars b4 26 [.sl 5001 Hp 1 0 P.length]) (g80 : st.h.get 80 = .vars b5 3 [.v (.int .i64 D)])
 (g5000 : st.h.get 5000 = .rows Hl 3 (L.map Part.row) true) (g5001 : st.h.get 5001 = .rows Hp 1 (P.map ak) true)
 (hK : ∀ Hl' h',AH.get h' 48 = .vars b3 63 [.sl 5000 Hl' 3 0 (aJ L P D).length] -> AH.get h' 5000 = .rows Hl' 3 ((aJ L P D).map Part.row) true -> AH.get h' 64 = .vars b4 26 [.nil] -> AH.get h' 80 = .vars b5 3 [.v (.int .i64 0)] ->
  AH.get h' 128 = st.h.get 128->aW ⟨st.n,st.kb,st.t,h'⟩ dst (.tup []) K) : aa ⟨Tryz.prog,tt,w0,⟨bF,bG,bl,λ_=>True⟩⟩ 374 [.p 64 b4 0,.p 48 b3 0,.p 80 b5 0] st dst K:=by
 refine inl ae Tryz.func374 20000 (λw1 F=>?_);simp [g64];by_cases hp : P = []
 ·have hp0 : ¬ 0 < P.length:=by simp [hp]
  simp [hp0,g80];by_cases hd : 0 < D
  ·simp [hd,g48,g5000,g80,g64]
   intro b;refine ⟨by omega,λH=>hK H _ ?_ ?_ ?_ ?_ ?_⟩<;>simp [qa hp hd,Part.row]
  ·simp [hd,g80,g64]
   refine hK Hl _ ?_ ?_ ?_ ?_ ?_<;>simp [p9 hp hd,g48,g5000]
 ·have hp0 : 0 < P.length:=List.length_pos_iff.2 hp
  simp [hp0,g80,g48,g5000,g5001,g64];intro b;refine ⟨by omega,λH=>?_⟩;by_cases hd : 0 < D
  ·simp [hd,g80,g64]
   intro b2;refine ⟨by omega,λH2=>hK H2 _ ?_ ?_ ?_ ?_ ?_⟩<;>simp [qe hp hd,Part.row]
  ·simp [hd,g80,g64]
   refine hK H _ ?_ ?_ ?_ ?_ ?_<;>simp [qb hp hd,Part.row]
theorem hJ {F : List Part} {m : Nat} (h : m < F.length) {g : List CD->List CD} {p : Part} (hg : g F[m].row = p.row) : (F.map Part.row).modify m g = (F.set m p).map Part.row:=by
 apply List.ext_getElem?
 intro j;rw [List.getElem?_modify];simp only [List.getElem?_map,List.getElem?_set];by_cases hj : m = j
 ·subst hj
  simp [h,hg]
 ·simp [hj]
theorem sG (o : List Part) (ho : ∀ p∈o,ap p) (hl : o.length<=10000) : aj Tryz.prog 330 [.c (.s (o.map Part.row))] (.one (.c (.s ((normal o).map Part.row)) 3)):=by
 refine pci ae Tryz.func330 (λw0 base=>?_);simp;intro b3 b4 b5
 refine ag eok (λx : Nat × Hd × Hd=>x.1<=o.length) (λx=>⟨73,0,[(13,.v (.int .i64 x.1)),(12,.v (.int .i64 o.length)),(11,.ro (o.map Part.row)),(3,.p 48 b3 0),(4,.p 64 b4 0),(5,.p 80 b5 0),(6,.clo 374 [.p 64 b4 0,.p 48 b3 0,.p 80 b5 0])],
  [(48, .vars b3 63 [.sl 5000 x.2.1 3 0 (a9 (o.take x.1)).1.length]), (64, .vars b4 26 [.sl 5001 x.2.2 1 0 (a9 (o.take x.1)).2.1.length]), (80, .vars b5 3 [.v (.int .i64 (a9 (o.take x.1)).2.2)]),
   (5000,.rows x.2.1 3 ((a9 (o.take x.1)).1.map Part.row) true),(5001,.rows x.2.2 1 ((a9 (o.take x.1)).2.1.map ak) true)]⟩) (λx=>o.length - x.1) (0,none,none) (by simp) (by simp [a9]) (λx hx=>Ent.refl ?_)
 obtain ⟨i,Hl,Hp⟩:=x;simp only at hx ⊢;have hok:=kJ ho i hx;by_cases h : i < o.length
 ·have hs:=gj h
  have hpb:=(ho _ (List.getElem_mem h)).bounds;generalize a9 (o.take i) = s at hok hs;obtain ⟨L,P,D⟩:=s;obtain ⟨k1,k2,k3,k4,k5⟩:=hok;simp only at k1 k2 k3 k4 k5;have e : Go.IntKind.i64.wrap ((i : Int) + 1) = ((i + 1 : Nat) : Int):=ah (by omega);simp [h,Part.row];intro b8;by_cases c2 : o[i].kind = 2
  ·simp [c2]
   refine ⟨by omega,λH=>?_⟩;refine Ent.refl ⟨i + 1,by omega,by omega,Hl,H,?_⟩;rw [hs];simp [dm,c2,e]
  ·by_cases c3 : o[i].kind = 3
   ·have e3 : Go.IntKind.i64.wrap (D + o[i].n) = D + o[i].n:=Go.IntWalk.i64_in _ (by omega)
    simp [c3,e3];refine Ent.refl ⟨i + 1,by omega,by omega,Hl,Hp,?_⟩;rw [hs];simp [dm,c3,e]
   ·by_cases cn : 0 < o[i].n
    ·simp [c2,c3,cn]
     refine mu (L:=L) (P:=P) (D:=D) (Hl:=Hl) (Hp:=Hp) (by omega) (by omega) (by simp) (by simp) (by simp) (by simp) (by simp) (λHl' h' g48 g5000 g64 g80 g128=>?_);have f1:=gl L P D;have f2:=gk (P:=P) k3 k4 k5;have hstep : dm (L,P,D) o[i] = (bS (aJ L P D) o[i].n,[],0):=by simp [dm,c2,c3,cn]
     rw [hstep] at hs;generalize aJ L P D = F at f1 f2 g48 g5000 hs;simp at g128;by_cases hF : 0 < F.length
     ·obtain ⟨m,hm⟩ : ∃ m,F.length = m + 1:=⟨F.length - 1,by omega⟩
      have hmlt : m < F.length:=by omega
      have em : Go.IntKind.i64.wrap (m : Int) = m:=ep (by omega)
      have hk : bS F o[i].n = if F[m].kind = 1 then F.set m ⟨1,F[m].n + o[i].n,F[m].signs⟩ else F ++ [⟨1,o[i].n,[]⟩]:=by
       have e0 : F.length - 1 = m:=by omega
       simp [bS,hF,e0]
      have hq:=f2 _ (List.getElem_mem hmlt);simp [g48,g5000,hm,em,Part.row];by_cases ck : F[m].kind = 1
      ·rw [if_pos ck] at hk
       have em2 : Go.IntKind.i64.wrap (F[m].n + o[i].n) = F[m].n + o[i].n:=Go.IntWalk.i64_in _ (by omega);have hmm : (m : Int) < m + 1:=by omega
       simp [ck,hmm];refine drw eok mix [0,1,2,3,4,5,6,7,8,9,10] [11] (.c 11 11 2045 2 (.l 11 2) .s) ?_;simp [g48,g5000,g128,hm,em,Part.row,ck,em2,hmm];refine Ent.kill 5001 (Ent.refl ⟨i + 1,by omega,by omega,Hl',none,?_⟩);rw [hs,hk];have hmod:=hJ (F:=F) (m:=m) hmlt (g:=λrow=>eD row 1 [CD.v (Value.int IntKind.i64 (F[m].n + o[i].n))]) (p:=⟨1,F[m].n + o[i].n,F[m].signs⟩) (by simp [Part.row,ck]);simp [e,g48,g64,g80,hm,hmod]
      ·rw [if_neg ck] at hk
       simp [ck,g48,g5000,g128,hm];refine ⟨by omega,λb=>⟨by omega,λH=>?_⟩⟩;refine Ent.kill 5001 (Ent.refl ⟨i + 1,by omega,by omega,H,none,?_⟩);rw [hs,hk];simp [e,Part.row,g64,g80,hm]
     ·have hF0 : F = []:=List.eq_nil_of_length_eq_zero (by omega)
      subst hF0;have hk : bS [] o[i].n = [⟨1,o[i].n,[]⟩]:=by simp [bS]
      simp [g48,g5000,g128];intro b H;refine Ent.kill 5001 (Ent.refl ⟨i + 1,by omega,by omega,H,none,?_⟩);rw [hs,hk];simp [e,Part.row,g64,g80]
    ·simp [c2,c3,cn]
     refine Ent.refl ⟨i + 1,by omega,by omega,Hl,Hp,?_⟩;rw [hs];simp [dm,c2,c3,cn,e]
 ·have he : o.take i = o:=List.take_of_length_le (by omega)
  rw [he] at hok ⊢;have hn : normal o = aJ (a9 o).1 (a9 o).2.1 (a9 o).2.2:=rfl;rw [hn];generalize a9 o = s at hok;obtain ⟨L,P,D⟩:=s;obtain ⟨k1,k2,k3,k4,k5⟩:=hok;simp only at k1 k2 k3 k4 k5;simp [h];refine mu (L:=L) (P:=P) (D:=D) (Hl:=Hl) (Hp:=Hp) (by omega) (by omega) (by simp) (by simp) (by simp) (by simp) (by simp) (λHl' h' g48 g5000 g64 g80 g128=>?_);simp [g48,g5000]
theorem md {w0 : World} {bF bG : Nat->Prop} {bl : Bool} {st : ASt} {dst : Option Nat} {K : ASt->Prop} {L : List Part} {P : List Int} {D : Int} {b : Nat} {Hl Hp : Hd} (hL : L.length<=2 ^ 20) (_hP : P.length<=2 ^ 40)
 (g160 : st.h.get 160 = .vars b 363 [.sl 5000 Hl 3 0 L.length,.sl 5001 Hp 1 0 P.length,.v (.int .i64 D)])
 (g5000 : st.h.get 5000 = .rows Hl 3 (L.map Part.row) true) (g5001 : st.h.get 5001 = .rows Hp 1 (P.map ak) true)
 (hK : ∀ Hl' h',AH.get h' 160 = .vars b 363 [.sl 5000 Hl' 3 0 (aJ L P D).length,.nil,.v (.int .i64 0)] -> AH.get h' 5000 = .rows Hl' 3 ((aJ L P D).map Part.row) true ->
  AH.get h' 80 = st.h.get 80->aW ⟨st.n,st.kb,st.t,h'⟩ dst (.tup []) K) : aa ⟨Tryz.prog,tt,w0,⟨bF,bG,bl,λ_=>True⟩⟩ 408 [.p 160 b 0] st dst K:=by
 refine inl ae Tryz.func408 20000 (λw1 F=>?_);simp [g160];by_cases hp : P = []
 ·have hp0 : ¬ 0 < P.length:=by simp [hp]
  simp [hp0,g160];by_cases hd : 0 < D
  ·simp [hd]
   refine drw eok mix [0,1,2,3,4,5,6,7,8,9,12,13] [10,11,14] (.c 12 10 4 4091 (.c 12 11 128 3963 (.c 12 14 3961 2 (.l 12 2) .s) .s) .s) ?_;simp [g160,g5000];intro b1;refine ⟨by omega,λH=>hK H _ ?_ ?_ ?_⟩<;>simp [qa hp hd,Part.row]
  ·simp [hd,g160]
   refine hK Hl _ ?_ ?_ ?_<;>simp [p9 hp hd,g5000]
 ·have hp0 : 0 < P.length:=List.length_pos_iff.2 hp
  simp [hp0];refine drw eok mix [0,1,2,3,4,5,6,7,8,9,12,13] [10,11,14] (.c 12 10 4 4091 (.c 12 11 128 3963 (.c 12 14 3961 2 (.l 12 2) .s) .s) .s) ?_;simp [g160,g5000,g5001];intro b1;refine ⟨by omega,λH=>?_⟩;by_cases hd : 0 < D
  ·simp [hd]
   refine drw eok mix [0,1,2,3,4,5,6,7,8,9,12,13] [10,11,14] (.c 12 10 4 4091 (.c 12 11 128 3963 (.c 12 14 3961 2 (.l 12 2) .s) .s) .s) ?_;simp;intro b2;refine ⟨by omega,λH2=>hK H2 _ ?_ ?_ ?_⟩<;>simp [qe hp hd,Part.row]
  ·simp [hd]
   refine hK H _ ?_ ?_ ?_<;>simp [qb hp hd,Part.row]
theorem ud {w0 : World} {bF bG : Nat->Prop} {bl : Bool} {st : ASt} {dst : Option Nat} {K : ASt->Prop} {L : List Part} {P : List Int} {D n : Int} {b : Nat} {Hl Hp : Hd} (hL : L.length<=2 ^ 19) (hP : P.length<=2 ^ 40) (hn0 : 0 < n) (hn : n<=200) (hF : ∀ q∈aJ L P D,0<=q.n/\q.n<=2 ^ 40)
 (g160 : st.h.get 160 = .vars b 363 [.sl 5000 Hl 3 0 L.length,.sl 5001 Hp 1 0 P.length,.v (.int .i64 D)])
 (g5000 : st.h.get 5000 = .rows Hl 3 (L.map Part.row) true) (g5001 : st.h.get 5001 = .rows Hp 1 (P.map ak) true)
 (hK : ∀ Hl' h',AH.get h' 160 = .vars b 363 [.sl 5000 Hl' 3 0 (bS (aJ L P D) n).length,.nil,.v (.int .i64 0)] -> AH.get h' 5000 = .rows Hl' 3 ((bS (aJ L P D) n).map Part.row) true ->
  AH.get h' 80 = st.h.get 80->aW ⟨st.n,st.kb,st.t,h'⟩ dst (.tup []) K) : aa ⟨Tryz.prog,tt,w0,⟨bF,bG,bl,λ_=>True⟩⟩ 397 [.p 160 b 0,.v (.int .i64 n)] st dst K:=by
 refine inl ae Tryz.func397 30000 (λw1 F=>?_);have n0 : ¬ n = 0:=by omega
 simp [n0];refine md (L:=L) (P:=P) (D:=D) (Hl:=Hl) (Hp:=Hp) (by omega) hP (by simp [g160]) (by simp [g5000]) (by simp [g5001]) (λHl' h' k160 k5000 k80=>?_);have f1:=gl L P D;generalize aJ L P D = F at f1 hF k160 k5000 hK;by_cases hF0 : 0 < F.length
 ·obtain ⟨m,hm⟩ : ∃ m,F.length = m + 1:=⟨F.length - 1,by omega⟩
  have hmlt : m < F.length:=by omega
  have hmm : (m : Int) < m + 1:=by omega
  have em : Go.IntKind.i64.wrap (m : Int) = m:=ep (by omega)
  have hk : bS F n = if F[m].kind = 1 then F.set m ⟨1,F[m].n + n,F[m].signs⟩ else F ++ [⟨1,n,[]⟩]:=by
   have e0 : F.length - 1 = m:=by omega
   simp [bS,hF0,e0]
  have hq:=hF _ (List.getElem_mem hmlt);have em2 : Go.IntKind.i64.wrap (F[m].n + n) = F[m].n + n:=Go.IntWalk.i64_in _ (by omega);simp [k160,k5000,hm,em,hmm,Part.row];by_cases ck : F[m].kind = 1
  ·rw [if_pos ck] at hk
   simp [ck];refine drw eok mix [0,1,2,3,4,5,6,7,8,9,10,11,12,13,14,15,16,17,18] [19] (.c 19 19 524285 2 (.l 19 2) .s) ?_;simp [k160,k5000,hm,em,hmm,Part.row,ck,em2];have hmod:=hJ (F:=F) (m:=m) hmlt (g:=λrow=>eD row 1 [CD.v (Value.int IntKind.i64 (F[m].n + n))]) (p:=⟨1,F[m].n + n,F[m].signs⟩) (by simp [Part.row,ck]);refine hK Hl' _ ?_ ?_ ?_
   ·simp [k160,hk,hm]
   ·simp [hk,hmod]
   ·simp [k80]
  ·rw [if_neg ck] at hk
   simp [ck,k160,k5000,hm];intro b1;refine ⟨by omega,λH=>hK H _ ?_ ?_ ?_⟩<;>simp [hk,hm,Part.row,k80]
 ·have hF1 : F = []:=List.eq_nil_of_length_eq_zero (by omega)
  subst hF1;have hk : bS [] n = [⟨1,n,[]⟩]:=by simp [bS]
  simp [k160,k5000];intro b1 H;refine hK H _ ?_ ?_ ?_<;>simp [hk,Part.row,k80]
open Classical in
noncomputable def bV (o : List Part) : List Part:=if bN o then normal o else []
theorem o7 (o : List Part) (hl : nL aF o<=2 ^ 40) : aj Tryz.prog 336 [.c (.s (o.map Part.row))] (.one (.c (.s ((bV o).map Part.row)) 3)):=by
 refine pci ae Tryz.func336 (λw0 base=>?_);simp;refine aa.pure (eg o hl) (by simp) ?_;by_cases h : bN o
 ·have e : bV o = normal o:=by unfold bV;rw [if_pos h]
  simp [h,e];refine aa.pure (sG o h.1.1 (by have:=h.1.2;omega)) (by simp) ?_;simp
 ·have e : bV o = []:=by unfold bV;rw [if_neg h]
  have e2 : dc (bN o) = false:=by rw [cJ];exact h
  simp [e,e2]
theorem oI (o : List Part) (hl : nL aF o<=2 ^ 40) : aj Tryz.prog 388 [.c (.s (o.map Part.row))] (.one (.c (.s ((bV o).map Part.row)) 3)):=by
 refine pci ae Tryz.func388 (λw0 base=>?_);simp;refine aa.pure (d9 o hl) (by simp) ?_;by_cases hopk : bN o
 rotate_left
 ·have e : bV o = []:=by unfold bV;rw [if_neg hopk]
  have e2 : dc (bN o) = false:=by rw [cJ];exact hopk
  simp [e,e2]
 have e : bV o = normal o:=by unfold bV;rw [if_pos hopk]
 have ho:=hopk.1.1;have hlen:=hopk.1.2;simp [hopk,e];intro b
 refine ag eok (λx : Nat × Hd × Hd=>x.1<=o.length) (λx=>⟨38,0,[(13,.v (.int .i64 x.1)),(12,.v (.int .i64 o.length)),(11,.ro (o.map Part.row)),(3,.p 160 b 0)],
  [(160, .vars b 363 [.sl 5000 x.2.1 3 0 (a9 (o.take x.1)).1.length, .sl 5001 x.2.2 1 0 (a9 (o.take x.1)).2.1.length, .v (.int .i64 (a9 (o.take x.1)).2.2)]),
   (5000,.rows x.2.1 3 ((a9 (o.take x.1)).1.map Part.row) true),(5001,.rows x.2.2 1 ((a9 (o.take x.1)).2.1.map ak) true)]⟩) (λx=>o.length - x.1) (0,none,none) (by simp) (by simp [a9]) (λx hx=>Ent.refl ?_)
 obtain ⟨i,Hl,Hp⟩:=x;simp only at hx ⊢;have hok:=kJ ho i hx;by_cases h : i < o.length
 ·have hs:=gj h
  have hpb:=(ho _ (List.getElem_mem h)).bounds;generalize a9 (o.take i) = s at hok hs;obtain ⟨L,P,D⟩:=s;obtain ⟨k1,k2,k3,k4,k5⟩:=hok;simp only at k1 k2 k3 k4 k5;have e : Go.IntKind.i64.wrap ((i : Int) + 1) = ((i + 1 : Nat) : Int):=ah (by omega);simp [h,Part.row];intro b5;by_cases c1 : o[i].kind = 1
  ·simp [c1]
   by_cases cn : 0 < o[i].n
   ·have hstep : dm (L,P,D) o[i] = (bS (aJ L P D) o[i].n,[],0):=by simp [dm,c1,cn]
    rw [hstep] at hs;have f2:=gk (P:=P) k3 k4 k5;refine ud (L:=L) (P:=P) (D:=D) (Hl:=Hl) (Hp:=Hp) (by omega) (by omega) cn hpb.2.2.1 (λq hq=>by have:=f2 q hq;omega) (by simp) (by simp) (by simp) (λHl' h' k160 k5000 k80=>?_);simp;refine Ent.kill 5001 (Ent.refl ⟨i + 1,by omega,by omega,Hl',none,?_⟩);rw [hs];simp [e,k160,k5000]
   ·have cn0 : o[i].n = 0:=by omega
    refine inl ae Tryz.func397 30000 (λw1 F=>?_);simp [cn0];refine Ent.refl ⟨i + 1,by omega,by omega,Hl,Hp,?_⟩;rw [hs];simp [dm,c1,cn0,e]
  ·by_cases c2 : o[i].kind = 2
   ·simp [c2]
    refine inl ae Tryz.func394 30000 (λw1 F=>?_);simp;refine ⟨by omega,λH=>?_⟩;refine Ent.refl ⟨i + 1,by omega,by omega,Hl,H,?_⟩;rw [hs];simp [dm,c2,e]
   ·have c3 : o[i].kind = 3:=by omega
    have e3 : Go.IntKind.i64.wrap (D + o[i].n) = D + o[i].n:=Go.IntWalk.i64_in _ (by omega);simp [c1,c2];refine inl ae Tryz.func393 30000 (λw1 F=>?_);simp [e3];refine Ent.refl ⟨i + 1,by omega,by omega,Hl,Hp,?_⟩;rw [hs];simp [dm,c3,e]
 ·have he : o.take i = o:=List.take_of_length_le (by omega)
  rw [he] at hok ⊢;have hn : normal o = aJ (a9 o).1 (a9 o).2.1 (a9 o).2.2:=rfl;rw [hn];generalize a9 o = s at hok;obtain ⟨L,P,D⟩:=s;obtain ⟨k1,k2,k3,k4,k5⟩:=hok;simp only at k1 k2 k3 k4 k5;simp [h];refine inl ae Tryz.func398 30000 (λw1 F=>?_);simp;refine md (L:=L) (P:=P) (D:=D) (Hl:=Hl) (Hp:=Hp) (by omega) (by omega) (by simp) (by simp) (by simp) (λHl' h' k160 k5000 k80=>?_);simp [k160,k5000]
theorem mV (a b : List Int) (hl : a.length<=2 ^ 40) : aj Tryz.prog 117 [.c (.s (a.map ak)),.c (.s (b.map ak))] (.one (.c (vb (a = b)) 1)):=by
 refine pci ae Tryz.func117 (λw0 base=>?_);by_cases h : a.length = b.length
 ·simp [h]
  refine au.intro eok (λi : Nat=>i<=a.length/\a.take i = b.take i) (λi=>⟨26,0,[(13,.v (.int .i64 i)),(12,.v (.int .i64 b.length)),(1,.ro (b.map ak)),(0,.ro (a.map ak))],[]⟩) (λi=>a.length - i) 0 (by simp) (by simp) (λi hi=>?_);by_cases hlt : i < a.length
  ·have hlt' : i < b.length:=by omega
   simp [hlt'];refine am.quiet eok mix (by kernel_rfl) ?_;simp [hlt,hlt'];refine Br.mk (λh1=>?_) (λh1=>?_)
   ·simp
    exact ⟨i + 1,⟨by omega,jg hlt hlt' hi.2 (mn h1)⟩,by omega,ah (by omega)⟩
   ·simp [cJ]
    exact qN hlt hlt' (qM h1)
  ·have hlt' : ¬ i < b.length:=by omega
   simp [hlt',jC];exact kG (by omega) (by omega) hi.2
 ·have hz : ¬ (a.length : Int) = b.length:=by omega
  simp [hz,cJ];exact λh2=>absurd (by rw [h2]) h
theorem qF (a b : List Int) (hl : a.length<=2 ^ 40) : aj Tryz.prog 194 [.c (.s (a.map ak)),.c (.s (b.map ak))] (.one (.c (vb (a = b)) 1)):=by
 refine pci ae Tryz.func194 (λw0 base=>?_);by_cases h : a.length = b.length
 ·simp [h]
  refine au.intro eok (λi : Nat=>i<=a.length/\a.take i = b.take i) (λi=>⟨26,0,[(13,.v (.int .i64 i)),(12,.v (.int .i64 b.length)),(1,.ro (b.map ak)),(0,.ro (a.map ak))],[]⟩) (λi=>a.length - i) 0 (by simp) (by simp) (λi hi=>?_);by_cases hlt : i < a.length
  ·have hlt' : i < b.length:=by omega
   simp [hlt'];refine am.quiet eok mix (by kernel_rfl) ?_;simp [hlt,hlt'];refine Br.mk (λh1=>?_) (λh1=>?_)
   ·simp
    exact ⟨i + 1,⟨by omega,jg hlt hlt' hi.2 (mn h1)⟩,by omega,ah (by omega)⟩
   ·simp [cJ]
    exact qN hlt hlt' (qM h1)
  ·have hlt' : ¬ i < b.length:=by omega
   simp [hlt',jC];exact kG (by omega) (by omega) hi.2
 ·have hz : ¬ (a.length : Int) = b.length:=by omega
  simp [hz,cJ];exact λh2=>absurd (by rw [h2]) h
theorem zS (p q : Part) (hl : p.signs.length<=2 ^ 40) : aj Tryz.prog 307 [.agg p.row,.agg q.row] (.one (.c (vb (p = q)) 1)):=by
 refine pci ae Tryz.func307 (λw0 base=>?_);obtain ⟨k1,n1,s1⟩:=p;obtain ⟨k2,n2,s2⟩:=q;simp [Part.row];intro b1 b2;by_cases h1 : k1 = k2
 ·by_cases h2 : n1 = n2
  ·simp [h1,h2]
   refine aa.pure (mV s1 s2 hl) (by simp) ?_;simp
  ·simp [h1,h2]
 ·simp [h1]
theorem zc (a b : List Part) (hl : a.length<=2 ^ 40) (hs : ∀ p∈a,p.signs.length<=2 ^ 40) : aj Tryz.prog 306 [.c (.s (a.map Part.row)),.c (.s (b.map Part.row)),.c (.v (.func (.func 307) #[] #[]))] (.one (.c (vb (a = b)) 1)):=by
 refine pci ae Tryz.func306 (λw0 base=>?_);by_cases h : a.length = b.length
 ·simp [h]
  refine au.intro eok (λi : Nat=>i<=a.length/\a.take i = b.take i) (λi=>⟨32,0,[(17,.v (.int .i64 i)),(16,.v (.int .i64 b.length)),(15,.ro (a.map Part.row)),(2,.v (.func (.func 307) #[] #[])),(1,.ro (b.map Part.row))],[]⟩) (λi=>a.length - i) 0 (by simp) (by simp) (λi hi=>?_);by_cases hlt : i < a.length
  ·have hlt' : i < b.length:=by omega
   simp [hlt,hlt',Part.row];intro b1 b2;refine aa.pure (zS a[i] b[i] (hs _ (List.getElem_mem hlt))) (by simp [Part.row]) ?_;simp;refine Br.mk (λh1=>?_) (λh1=>?_)
   ·simp
    exact ⟨i + 1,⟨by omega,jg hlt hlt' hi.2 (mn h1)⟩,by omega,ah (by omega)⟩
   ·simp [cJ]
    exact qN hlt hlt' (qM h1)
  ·have hlt' : ¬ i < b.length:=by omega
   simp [hlt',jC];exact kG (by omega) (by omega) hi.2
 ·have hz : ¬ (a.length : Int) = b.length:=by omega
  simp [hz,cJ];exact λh2=>absurd (by rw [h2]) h
theorem Fz (a b : List Part) (hl : a.length<=2 ^ 40) (hs : ∀ p∈a,p.signs.length<=2 ^ 40) : aj Tryz.prog 225 [.c (.s (a.map Part.row)),.c (.s (b.map Part.row))] (.one (.c (vb (a = b)) 1)):=by
 refine pci ae Tryz.func225 (λw0 base=>?_);simp;refine aa.pure (zc a b hl hs) (by simp) ?_;simp
theorem vZ (a b : List Part) (hl : a.length<=2 ^ 40) (hs : ∀ p∈a,p.signs.length<=2 ^ 40) : aj Tryz.prog 285 [.c (.s (a.map Part.row)),.c (.s (b.map Part.row))] (.one (.c (vb (a = b)) 1)):=by
 refine pci ae Tryz.func285 (λw0 base=>?_);by_cases h : a.length = b.length
 ·simp [h]
  refine au.intro eok (λi : Nat=>i<=a.length/\a.take i = b.take i) (λi=>⟨49,0,[(14,.v (.int .i64 i)),(13,.v (.int .i64 b.length)),(12,.ro (a.map Part.row)),(1,.ro (b.map Part.row))],[]⟩) (λi=>a.length - i) 0 (by simp) (by simp) (λi hi=>?_);by_cases hlt : i < a.length
  ·have hlt' : i < b.length:=by omega
   simp [hlt,hlt',Part.row];intro b1;refine am.quiet eok mix (by kernel_rfl) ?_;simp [hlt',Part.row];by_cases h1 : a[i].kind = b[i].kind
   ·by_cases h2 : a[i].n = b[i].n
    ·simp [h1,h2,hlt',Part.row]
     refine ⟨_,_,qF a[i].signs b[i].signs (hs _ (List.getElem_mem hlt)),by simp,?_⟩;simp;by_cases h3 : a[i].signs = b[i].signs
     ·simp [h3]
      have he : a[i] = b[i]:=by
       cases hx : a[i];cases hy : b[i]
       rw [hx,hy] at h1 h2 h3;simp at h1 h2 h3;rw [h1,h2,h3]
      exact ⟨i + 1,⟨by omega,jg hlt hlt' hi.2 he⟩,by omega,ah (by omega)⟩
     ·simp [h3,cJ]
      exact qN hlt hlt' (λhe=>h3 (by rw [he]))
    ·simp [h1,h2,hlt',Part.row,cJ]
     exact qN hlt hlt' (λhe=>h2 (by rw [he]))
   ·simp [h1,cJ]
    exact qN hlt hlt' (λhe=>h1 (by rw [he]))
  ·have hlt' : ¬ i < b.length:=by omega
   simp [hlt',jC];exact kG (by omega) (by omega) hi.2
 ·have hz : ¬ (a.length : Int) = b.length:=by omega
  simp [hz,cJ];exact λh2=>absurd (by rw [h2]) h
theorem lz (a b : List Part) (h : nL aF a<=2 ^ 40) : aj Tryz.prog 225 [.c (.s (a.map Part.row)),.c (.s (b.map Part.row))] (.one (.c (vb (a = b)) 1)):=Fz a b (aA h) (λ_p hp=>dr h hp)
theorem nJ (a b : List Part) (h : nL aF a<=2 ^ 40) : aj Tryz.prog 285 [.c (.s (a.map Part.row)),.c (.s (b.map Part.row))] (.one (.c (vb (a = b)) 1)):=vZ a b (aA h) (λ_p hp=>dr h hp)
theorem gh {α : Type} {f : α->Nat} : ∀ (a b : List α),bR f (a ++ b) = bR f a + bR f b
 | [],b=>by simp [bR]
 | x :: a,b=>by simp only [List.cons_append,bR,gh a b];omega
theorem xN {α : Type} {f : α->Nat} : ∀ (l : List α) (i : Nat) (h : i < l.length) (x : α),f x = f l[i]->bR f (l.set i x) = bR f l
 | a :: l,0,_,x,hx=>by simp at hx;simp [bR,hx]
 | a :: l, i + 1, h, x, hx => by
   simp only [List.set_cons_succ,bR];rw [xN l i (by simpa using h) x (by simpa using hx)]
theorem qO {L : List Part} {P : List Int} {D : Int} : bR aF (aJ L P D) = bR aF L + P.length:=by
 unfold aJ;rw [gh,gh];by_cases hp : P = []<;>by_cases hd : 0 < D<;>simp [hp,hd,bR,aF]
theorem Ag {L : List Part} {n : Int} : bR aF (bS L n) = bR aF L:=by
 unfold bS
 split
 ·rename_i h
  split
  ·exact xN L _ (by omega) _ rfl
  ·rw [gh];simp [bR,aF]
 ·rename_i h
  have : L = []:=List.eq_nil_of_length_eq_zero (by omega);subst this;simp [bR,aF]
theorem vc {o : List Part} : ∀ (i : Nat),i<=o.length->bR aF (a9 (o.take i)).1 + (a9 (o.take i)).2.1.length<=bR aF (o.take i)
 | 0,_=>by simp [a9,bR]
 | i + 1, hi => by
   have ih:=vc (o:=o) i (by omega);have hlt : i < o.length:=by omega
   rw [gj hlt,<- List.take_append_getElem hlt,gh];generalize a9 (o.take i) = s at ih;generalize o[i] = p;obtain ⟨L,P,D⟩:=s;simp only at ih;have hp : bR aF [p] = p.signs.length:=by simp [bR,aF]
   rw [hp];unfold dm
   split
   ·simp;omega
   ·split
    ·simp;omega
    ·split
     ·simp only [Ag,qO];simp;omega
     ·simp;omega
theorem Ad (o : List Part) : bR aF (normal o)<=bR aF o:=by
 have h:=vc (o:=o) o.length (by omega);rw [List.take_length] at h;unfold normal;rw [qO];exact h
theorem Ae {o : List Part} (ho : ∀ p∈o,ap p) : (normal o).length<=3 * o.length + 2:=by
 have h:=(kJ ho o.length (by omega)).l;rw [List.take_length] at h;have:=gl (a9 o).1 (a9 o).2.1 (a9 o).2.2;unfold normal;omega
theorem rY {o : List Part} (ho : ∀ p∈o,ap p) : bR aF o<=200 * o.length:=by
 induction o with
 | nil=>simp [bR]
 | cons p o ih =>
   have h1:=(ho p (List.mem_cons_self ..)).bounds;have h2:=ih (λq hq=>ho q (List.mem_cons_of_mem _ hq));simp only [bR,aF,List.length_cons];omega
theorem yv {o : List Part} (ho : ∀ p∈o,ap p) : nL aF o<=201 * o.length:=by
 have:=rY ho;unfold nL;omega
theorem kK {o : List Part} (ho : ∀ p∈o,ap p) : nL aF (normal o)<=203 * o.length + 2:=by
 have h1:=Ad o;have h2:=Ae ho;have h3:=rY ho;unfold nL;omega
theorem oQ (o : List Part) : nL aF (bV o)<=2 ^ 20:=by
 unfold bV
 split
 ·rename_i h
  have:=kK h.1.1;have:=h.1.2;omega
 ·simp [nL,bR]
def gb (o : List Part) : Prop:=bN o/\bV o = o
theorem wG (o : List Part) (hl : nL aF o<=2 ^ 40) : aj Tryz.prog 252 [.c (.s (o.map Part.row))] (.one (.c (vb (gb o)) 1)):=by
 refine pci ae Tryz.func252 (λw0 base=>?_);simp;refine aa.pure (eg o hl) (by simp) ?_;by_cases h : bN o
 ·simp [h]
  refine aa.pure (o7 o hl) (by simp) ?_;simp;intro H;refine aa.pure (lz o (bV o) hl) (by simp) ?_;simp [gb,h];exact tv ⟨λh=>h.symm,λh=>h.symm⟩
 ·simp [h,gb]
theorem v2 (o : List Part) (hl : nL aF o<=2 ^ 40) : aj Tryz.prog 353 [.c (.s (o.map Part.row))] (.one (.c (vb (gb o)) 1)):=by
 refine pci ae Tryz.func353 (λw0 base=>?_);simp;refine aa.pure (d9 o hl) (by simp) ?_;by_cases h : bN o
 ·simp [h]
  refine aa.pure (oI o hl) (by simp) ?_;simp;intro H;refine aa.pure (nJ (bV o) o (Nat.le_trans (oQ o) (by decide))) (by simp) ?_;simp [gb,h]
 ·simp [h,gb]
def cH (t : List Int) : Prop:=t.length<=200/\dS t
theorem gJ (t : List Int) (hl : t.length<=2 ^ 40) : aj Tryz.prog 214 [.c (.s (t.map ak))] (.one (.c (vb (cH t)) 1)):=by
 refine pci ae Tryz.func214 (λw0 base=>?_);by_cases h : t.length<=200
 ·have h' : (t.length : Int)<=200:=by omega
  simp [h'];refine aa.pure (nO t hl) (by simp) ?_;simp [cH,h]
 ·have h' : ¬ (t.length : Int)<=200:=by omega
  simp [h',cH,h]
theorem iR (t : List Int) (hl : t.length<=2 ^ 40) : aj Tryz.prog 209 [.c (.s (t.map ak))] (.one (.c (vb (cH t)) 1)):=by
 refine pci ae Tryz.func209 (λw0 base=>?_);simp;refine aa.pure (nG t hl) (by simp) ?_;have e : ((t.length : Int)<=200) = (t.length<=200):=by simp;omega
 by_cases hg : dS t
 ·simp [hg,cH,e]
 ·simp [hg,cH]
def psz (p : Part) : Nat:=p.n.toNat + p.signs.length
def eQ (p : Part) (n : Nat) : Part:=if p.kind = 2 then ⟨p.kind,p.n,p.signs.take n⟩ else ⟨p.kind,n,p.signs⟩
def bk (p : Part) (n : Nat) : Part:=if p.kind = 2 then ⟨p.kind,p.n,p.signs.drop n⟩ else ⟨p.kind,p.n - n,p.signs⟩
theorem e9 {p : Part} (h : ap p) : (psz p : Int) = p.n + p.signs.length/\psz p<=200:=by
 have hb:=h.bounds;unfold psz;by_cases hk : p.kind = 2
 ·have:=hb.2.2.2.2.1 hk
  omega
 ·have:=hb.2.2.2.2.2 hk
  rw [this];simp;omega
@[simp] theorem NB {p : Part} {n : Nat} : (eQ p n).kind = p.kind:=by unfold eQ;split<;>rfl
@[simp] theorem LH {p : Part} {n : Nat} : (bk p n).kind = p.kind:=by unfold bk;split<;>rfl
theorem m4 {p : Part} (h : ap p) {n : Nat} (hn : n<=psz p) : ap (eQ p n):=by
 have hp:=e9 h;unfold eQ;by_cases hk : p.kind = 2
 ·rw [if_pos hk]
  rw [ga hk] at h;refine .inr ⟨hk,h.1,?_,λm hm=>h.2.2 m (List.mem_of_mem_take hm)⟩;simp;omega
 ·rw [if_neg hk]
  have hb:=h.bounds;have hk2 : p.kind = 1\/p.kind = 3:=by omega
  have:=hb.2.2.2.2.2 hk;refine .inl ⟨hk2,?_,this⟩;simp only;omega
theorem yi {p : Part} (h : ap p) {n : Nat} (hn : n<=psz p) : ap (bk p n):=by
 have hp:=e9 h;unfold bk;by_cases hk : p.kind = 2
 ·rw [if_pos hk]
  rw [ga hk] at h;refine .inr ⟨hk,h.1,?_,λm hm=>h.2.2 m (List.mem_of_mem_drop hm)⟩;simp;omega
 ·rw [if_neg hk]
  have hb:=h.bounds;have hk2 : p.kind = 1\/p.kind = 3:=by omega
  have:=hb.2.2.2.2.2 hk;refine .inl ⟨hk2,?_,this⟩;rw [this] at hp;simp at hp;simp only;omega
theorem iw {p : Part} (h : ap p) {n : Nat} (hn : n<=psz p) : psz (bk p n) = psz p - n:=by
 have hb:=h.bounds;unfold psz bk at *;by_cases hk : p.kind = 2
 ·rw [if_pos hk]
  have:=hb.2.2.2.2.1 hk;simp only [this,List.length_drop] at hn ⊢;omega
 ·rw [if_neg hk]
  have:=hb.2.2.2.2.2 hk;simp only [this,List.length_nil] at hn ⊢;omega
theorem dF {p : Part} (h : ap p) : eQ p (psz p) = p:=by
 have hb:=h.bounds;unfold psz eQ;by_cases hk : p.kind = 2
 ·rw [if_pos hk]
  have:=hb.2.2.2.2.1 hk;rw [List.take_of_length_le (by omega)]
 ·rw [if_neg hk]
  have:=hb.2.2.2.2.2 hk;obtain ⟨k,n,s⟩:=p;simp only at this hb;subst this;simp;omega
theorem yh {p : Part} {m n : Nat} : bk (bk p m) n = bk p (m + n):=by
 unfold bk;by_cases hk : p.kind = 2
 ·simp [hk,List.drop_drop]
 ·simp [hk]
  omega
theorem zY {p : Part} : bk p 0 = p:=by unfold bk;split<;>simp
def nxt : List Part->List Part
 | []=>[]
 | p :: l=>if psz p = 0 then nxt l else p :: l
def tsz : List Part->Nat
 | []=>0
 | p :: l=>psz p + tsz l
def frs : List Part->Nat
 | []=>0
 | p :: l=>(if p.kind = 2 then 0 else psz p) + frs l
def tos : List Part->Nat
 | []=>0
 | p :: l=>(if p.kind = 3 then 0 else psz p) + tos l
theorem wc : ∀ l : List Part,tsz (nxt l) = tsz l
 | []=>rfl
 | p :: l => by
   unfold nxt
   split
   ·rename_i h;rw [wc l];simp [tsz,h]
   ·rfl
theorem ja : ∀ l : List Part,frs (nxt l) = frs l
 | []=>rfl
 | p :: l => by
   unfold nxt
   split
   ·rename_i h;rw [ja l];simp [frs,h]
   ·rfl
theorem dW : ∀ {l : List Part} {p : Part} {l' : List Part},nxt l = p :: l'->0 < psz p
 | [],p,l',h=>by simp [nxt] at h
 | q :: l, p, l', h => by
   unfold nxt at h
   split at h
   ·exact dW h
   ·simp at h;rw [<- h.1];omega
theorem dX : ∀ l : List Part,nxt (nxt l) = nxt l
 | []=>rfl
 | p :: l => by
   by_cases h : psz p = 0
   ·simp only [nxt,h,if_true];exact dX l
   ·simp only [nxt,h,if_false]
theorem oe : ∀ l : List Part,∃ k,k<=l.length/\nxt l = l.drop k/\∀ i,(h : i < l.length)->i < k->psz l[i] = 0
 | []=>⟨0,by simp,rfl,λi h=>by simp at h⟩
 | p :: l => by
   by_cases h : psz p = 0
   ·obtain ⟨k,h1,h2,h3⟩:=oe l
    refine ⟨k + 1,by simp;omega,by simp [nxt,h,h2],λi hi hk=>?_⟩
    cases i with
    | zero=>simpa using h
    | succ i=>simpa using h3 i (by simpa using hi) (by omega)
   ·exact ⟨0,by simp,by simp [nxt,h],λi _ hk=>by omega⟩
theorem jP {l : List Part} {p : Part} (h : p∈nxt l) : p∈l:=by
 obtain ⟨k,_,h2,_⟩:=oe l;rw [h2] at h;exact List.mem_of_mem_drop h
theorem BJ (l : List Part) : (nxt l).length<=l.length:=by
 obtain ⟨k,_,h2,_⟩:=oe l;rw [h2];simp
theorem kL {l l' : List Part} {p : Part} {n : Nat} (hl : ∀ q∈l,ap q) (he : nxt l = p :: l') (hn : n<=psz p) : ∀ q∈bk p n :: l',ap q:=by
 intro q hq;rcases List.mem_cons.1 hq with rfl | hq
 ·exact yi (hl p (jP (he ▸ List.mem_cons_self ..))) hn
 ·exact hl q (jP (he ▸ List.mem_cons_of_mem _ hq))
theorem fZ {l l' : List Part} {p : Part} (hl : ∀ q∈l,ap q) (he : nxt l = p :: l') : ap p/\∀ q∈p :: l',ap q:=
 ⟨hl p (jP (he ▸ List.mem_cons_self ..)),λq hq=>hl q (jP (he ▸ hq))⟩
abbrev XR:=(List Part × List Part) × List Part × List Part
def cZ (x y : List Part) : Option XR:=
 match nxt x with
 | p :: x' => if p.kind = 2 then some (([eQ p (psz p)], [⟨1, p.signs.length, []⟩]), bk p (psz p) :: x', y) else match nxt y with
   | q :: y' => if q.kind = 2 then some (([⟨1, q.signs.length, []⟩], [eQ q (psz q)]), p :: x', bk q (psz q) :: y') else
       some ((if q.kind = 1 then [eQ p (min (psz p) (psz q))] else [],if p.kind = 1 then [eQ q (min (psz p) (psz q))] else []),bk p (min (psz p) (psz q)) :: x',bk q (min (psz p) (psz q)) :: y')
   | []=>none
 | [] => match nxt y with
   | q :: y'=>if q.kind = 2 then some (([⟨1,q.signs.length,[]⟩],[eQ q (psz q)]),[],bk q (psz q) :: y') else none
   | []=>none
structure TInv (x y : List Part) : Prop where
 px : ∀ p∈x,ap p
 py : ∀ p∈y,ap p
 b : frs x = frs y
structure TNext (x y : List Part) (r : XR) : Prop where
 inv : TInv r.2.1 r.2.2
 dec : tsz r.2.1 + tsz r.2.2 < tsz x + tsz y
 okx : ∀ p∈r.1.1,ap p
 oky : ∀ p∈r.1.2,ap p
 lenx : r.1.1.length<=1
 leny : r.1.2.length<=1
theorem Ax {p : Part} (h : ap p) : ap ⟨1,p.signs.length,[]⟩:=by
 have:=h.bounds;exact .inl ⟨.inl rfl,by simp only;omega,rfl⟩
theorem dk {x y : List Part} (hi : TInv x y) {r : XR} (h : cZ x y = some r) : TNext x y r:=by
 have hx:=wc x;have hy:=wc y;have hxt:=ja x;have hyf:=ja y;have hb:=hi.b;unfold cZ at h
 cases ex : nxt x with
 | nil =>
   rw [ex] at h hx hxt
   cases ey : nxt y with
   | nil=>simp [ey] at h
   | cons q y' =>
     rw [ey] at hy hyf;have hq:=fZ hi.py ey;have hp:=dW ey;simp only [ey] at h
     split at h
     ·rename_i k
      cases h
      have hs:=iw hq.1 (Nat.le_refl _);refine ⟨⟨by simp,kL hi.py ey (Nat.le_refl _),?_⟩,?_,?_,?_,by simp,by simp⟩
      ·simp [frs,k] at hxt hyf ⊢;omega
      ·simp [tsz] at hx hy ⊢;omega
      ·intro p hp;simp at hp;subst hp;exact Ax hq.1
      ·intro p hp;simp at hp;subst hp;exact m4 hq.1 (Nat.le_refl _)
     ·cases h
 | cons p x' =>
   rw [ex] at h hx hxt;have hp:=fZ hi.px ex;have hpp:=dW ex;simp only at h
   split at h
   ·rename_i k
    cases h
    have hs:=iw hp.1 (Nat.le_refl _);refine ⟨⟨kL hi.px ex (Nat.le_refl _),hi.py,?_⟩,?_,?_,?_,by simp,by simp⟩
    ·simp [frs,k] at hxt ⊢;omega
    ·simp [tsz] at hx ⊢;omega
    ·intro q hq;simp at hq;subst hq;exact m4 hp.1 (Nat.le_refl _)
    ·intro q hq;simp at hq;subst hq;exact Ax hp.1
   ·rename_i k3
    cases ey : nxt y with
    | nil=>simp [ey] at h
    | cons q y' =>
      rw [ey] at hy hyf;have hq:=fZ hi.py ey;have hqp:=dW ey;simp only [ey] at h
      split at h
      ·rename_i k
       cases h
       have hs:=iw hq.1 (Nat.le_refl _);refine ⟨⟨hp.2,kL hi.py ey (Nat.le_refl _),?_⟩,?_,?_,?_,by simp,by simp⟩
       ·simp [frs,k,k3] at hxt hyf ⊢;omega
       ·simp [tsz] at hx hy ⊢;omega
       ·intro p hp;simp at hp;subst hp;exact Ax hq.1
       ·intro p hp;simp at hp;subst hp;exact m4 hq.1 (Nat.le_refl _)
      ·rename_i k2
       cases h
       have hn1 : min (psz p) (psz q)<=psz p:=by omega
       have hn2 : min (psz p) (psz q)<=psz q:=by omega
       have hs1:=iw hp.1 hn1;have hs2:=iw hq.1 hn2;refine ⟨⟨kL hi.px ex hn1,kL hi.py ey hn2,?_⟩,?_,?_,?_,?_,?_⟩
       ·simp [frs,k2,k3] at hxt hyf ⊢;omega
       ·simp [tsz] at hx hy ⊢;omega
       ·intro r hr
        simp only at hr
        split at hr
        ·simp at hr;subst hr;exact m4 hp.1 hn1
        ·simp at hr
       ·intro r hr
        simp only at hr
        split at hr
        ·simp at hr;subst hr;exact m4 hq.1 hn2
        ·simp at hr
       ·simp only;split<;>simp
       ·simp only;split<;>simp
noncomputable def xfK : Nat->List Part->List Part->List Part × List Part
 | 0,_,_=>([],[])
 | k + 1, x, y => match cZ x y with
   | none=>([],[])
   | some r=>(r.1.1 ++ (xfK k r.2.1 r.2.2).1,r.1.2 ++ (xfK k r.2.1 r.2.2).2)
noncomputable def xf (x y : List Part) : List Part × List Part:=xfK (tsz x + tsz y) x y
theorem D3 : ∀ (k m : Nat) {x y : List Part},TInv x y->tsz x + tsz y<=k->tsz x + tsz y<=m->xfK k x y = xfK m x y
 | 0,0,_,_,_,_,_=>rfl
 | k + 1, 0, x, y, hi, h, h2 => by
   rw [xfK,xfK]
   cases hs : cZ x y with
   | none=>rfl
   | some r=>have:=(dk hi hs).dec;omega
 | 0, m + 1, x, y, hi, h, h2 => by
   rw [xfK,xfK]
   cases hs : cZ x y with
   | none=>rfl
   | some r=>have:=(dk hi hs).dec;omega
 | k + 1, m + 1, x, y, hi, h, h2 => by
   rw [xfK,xfK]
   cases hs : cZ x y with
   | none=>rfl
   | some r =>
     have hn:=dk hi hs;have:=hn.dec;simp only;rw [D3 k m hn.inv (by omega) (by omega)]
theorem Bj {x y : List Part} (h : cZ x y = none) : xf x y = ([],[]):=by
 unfold xf
 cases tsz x + tsz y with
 | zero=>rfl
 | succ k=>rw [xfK,h]
theorem Hr {x y : List Part} (hi : TInv x y) {r : XR} (h : cZ x y = some r) : xf x y = (r.1.1 ++ (xf r.2.1 r.2.2).1,r.1.2 ++ (xf r.2.1 r.2.2).2):=by
 have hn:=dk hi h;have hd:=hn.dec;unfold xf;obtain ⟨k,hk⟩ : ∃ k,tsz x + tsz y = k + 1:=⟨tsz x + tsz y - 1,by omega⟩;rw [hk,xfK,h];simp only;rw [D3 k (tsz r.2.1 + tsz r.2.2) hn.inv (by omega) (by omega)]
theorem wM : ∀ {o : List Part},(∀ p∈o,ap p)->(frs o : Int) = cC (lI 2) o
 | [],_=>rfl
 | p :: o, h => by
   have ih:=wM (λq hq=>h q (List.mem_cons_of_mem _ hq));have hp:=e9 (h p (List.mem_cons_self ..));simp only [frs,cC,lI]
   split<;>simp<;>omega
theorem vS : ∀ {o : List Part},(∀ p∈o,ap p)->(tos o : Int) = cC (lI 3) o
 | [],_=>rfl
 | p :: o, h => by
   have ih:=vS (λq hq=>h q (List.mem_cons_of_mem _ hq));have hp:=e9 (h p (List.mem_cons_self ..));simp only [tos,cC,lI]
   split<;>simp<;>omega
theorem kO {o : List Part} (h : bN o) : (frs o : Int) = br o:=by
 rw [wM h.1.1,f9 (λp hp=>MG (h.1.1 p hp)),jk];unfold br cI;rw [if_pos h.1]
theorem pK {o : List Part} (h : bN o) : (tos o : Int) = jJ o:=by
 rw [vS h.1.1,f9 (λp hp=>MF (h.1.1 p hp)),jk];unfold jJ cI;rw [if_pos h.1]
theorem zH : ∀ (o : List Part),tsz o<=frs o + tos o
 | []=>by simp [tsz]
 | p :: o => by
   have:=zH o;simp only [tsz,frs,tos]
   split<;>split<;>omega
theorem vR {o : List Part} (h : bN o) : tsz o<=400:=by
 have h1:=zH o;have h2:=kO h;have h3:=pK h;have:=h.2;omega
theorem rE {a b : List Part} (ha : bN a) (hb : bN b) (h : br a = br b) : TInv a b:=by
 have h2:=kO hb;have h3:=kO ha;exact ⟨ha.1.1,hb.1.1,by omega⟩
open Classical in
noncomputable def aC (a b : List Part) : List Part × List Part × Bool:=
 if bN a/\bN b/\br a = br b then (if bN (normal (xf a b).1)/\bN (normal (xf a b).2) then (normal (xf a b).1,normal (xf a b).2,true) else ([],[],false)) else ([],[],false)
def cur (o : List Part) (i d : Nat) : List Part:=
 match o.drop i with
 | []=>[]
 | p :: l=>bk p d :: l
theorem xg {o : List Part} {i d : Nat} (h : o.length<=i) : cur o i d = []:=by unfold cur;rw [List.drop_eq_nil_of_le h]
theorem tB {o : List Part} {i d : Nat} (h : i < o.length) : cur o i d = bk o[i] d :: o.drop (i + 1):=by unfold cur;rw [List.drop_eq_getElem_cons h]
theorem ze {o : List Part} {i : Nat} : cur o i 0 = o.drop i:=by
 unfold cur
 cases o.drop i with
 | nil=>rfl
 | cons p l=>simp [zY]
theorem GJ {o : List Part} (ho : ∀ p∈o,ap p) {i : Nat} (h : i < o.length) : nxt (cur o i (psz o[i])) = nxt (cur o (i + 1) 0):=by
 rw [tB h,ze];have:=iw (ho _ (List.getElem_mem h)) (Nat.le_refl _);simp [nxt,this]
theorem GI {o : List Part} (ho : ∀ p∈o,ap p) {i d : Nat} (h : i < o.length) (hd : d < psz o[i]) : nxt (cur o i d) = cur o i d:=by
 rw [tB h];have:=iw (ho _ (List.getElem_mem h)) (Nat.le_of_lt hd);have h2 : ¬ psz (bk o[i] d) = 0:=by omega
 simp [nxt,h2]
theorem GK {o : List Part} {i d n : Nat} (h : i < o.length) {p : Part} {l : List Part} (hc : cur o i d = p :: l) : bk p n :: l = cur o i (d + n):=by
 rw [tB h] at hc ⊢
 cases hc
 rw [yh]
theorem cE {k j : Nat} {o : AObj} {h : AH} (hne : j≠k) : AH.get ((k,o) :: h) j = AH.get h j:=if_neg hne
end Go.Proofs.YtoldjebobgocpaaGreat
