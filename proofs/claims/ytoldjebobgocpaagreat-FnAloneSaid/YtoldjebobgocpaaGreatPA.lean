import Derived.Test.YtoldjebobgocpaaGreatNA
import Derived.Test.YtoldjebobgocpaaGreatMF
namespace Go.Proofs.YtoldjebobgocpaaGreat
open Go.AM
set_option maxRecDepth 20000
theorem aO (n lo hi : Int) : ai Tryz.prog 112 [.c (vi n),.c (vi lo),.c (vi hi)] (.one (.c (vb (lo<=n/\n<=hi)) 1)):=by
 refine pci ae Tryz.func112 (λw0 base=>?_);by_cases h1 : lo<=n<;>by_cases h2 : n<=hi<;>simp [h1,h2]
theorem cI (n lo hi : Int) : ai Tryz.prog 67 [.c (vi n),.c (vi lo),.c (vi hi)] (.one (.c (vb (lo<=n/\n<=hi)) 1)):=by
 refine pci ae Tryz.func67 (λw0 base=>?_);by_cases h1 : lo<=n<;>by_cases h2 : n<=hi<;>simp [h1,h2]
def fB (n : Int) : Prop:=(0<=n/\n<=1114111)/\¬ (55296<=n/\n<=57343)
def dO (l : List Int) : Prop:=∀ n∈l,fB n
theorem v9 (n : Int) : ai Tryz.prog 360 [.c (vi n)] (.one (.c (vb (fB n)) 1)):=by
 refine pci ae Tryz.func360 (λw0 base=>?_);simp;refine aa.pure (aO n 0 1114111) (by simp) ?_;by_cases h : 0<=n/\n<=1114111
 ·simp [h]
  refine aa.pure (aO n 55296 57343) (by simp) ?_;by_cases h2 : 55296<=n/\n<=57343<;>simp [h2,fB,h]
  try (rw [gK];omega)
 ·have e : dc (0<=n/\n<=1114111) = false:=by rw [bY];exact h
  simp [fB,h]
theorem vJ (n : Int) : ai Tryz.prog 359 [.c (vi n)] (.one (.c (vb (fB n)) 1)):=by
 refine pci ae Tryz.func359 (λw0 base=>?_);simp;refine aa.pure (cI n 0 1114111) (by simp) ?_;by_cases h : 0<=n/\n<=1114111
 ·simp [h]
  refine aa.pure (cI n 55296 57343) (by simp) ?_;by_cases h2 : 55296<=n/\n<=57343<;>simp [h2,fB,h]
  try (rw [gK];omega)
 ·have e : dc (0<=n/\n<=1114111) = false:=by rw [bY];exact h
  simp [fB,h]
theorem iY {α : Type} {P : α->Prop} {l : List α} {i : Nat} (h : i < l.length) (ha : ∀ a∈l.take i,P a) (hi : P l[i]) : ∀ a∈l.take (i + 1),P a:=by
 rw [<- List.take_append_getElem h];intro a ha';rcases List.mem_append.1 ha' with h1 | h1
 ·exact ha a h1
 ·simp at h1;subst h1;exact hi
theorem jO {α : Type} {P : α->Prop} {l : List α} {i : Nat} (h : l.length<=i) (ha : ∀ a∈l.take i,P a) : ∀ a∈l,P a:=by
 rwa [List.take_of_length_le h] at ha
theorem rm {α : Type} {P : α->Prop} {l : List α} {i : Nat} (h : i < l.length) (hi : ¬ P l[i]) : ¬ ∀ a∈l,P a:=λha=>hi (ha _ (List.getElem_mem h))
theorem nJ (l : List Int) (hl : l.length<=2 ^ 40) : ai Tryz.prog 298 [.c (.s (l.map ao))] (.one (.c (vb (dO l)) 1)):=by
 refine pci ae Tryz.func298 (λw0 base=>?_);simp;refine aB.intro eok (λi : Nat=>i<=l.length/\∀ n∈l.take i,fB n) (λi=>⟨15,0,[(7,.v (.int .i64 i)),(6,.v (.int .i64 l.length)),(5,.ro (l.map ao))],[]⟩) (λi=>l.length - i) 0 (by simp) (by simp) (λi hi=>?_);by_cases h : i < l.length
 ·simp [h]
  refine aa.pure (v9 l[i]) (by simp) ?_;simp;refine Br.mk (λh1=>?_) (λh1=>?_)
  ·simp
   exact ⟨i + 1,⟨by omega,iY h hi.2 (jY h1)⟩,by omega,ag (by omega)⟩
  ·simp [bY]
   exact rm h (nG h1)
 ·simp [h,gK]
  exact jO (by omega) hi.2
theorem ny (l : List Int) (hl : l.length<=2 ^ 40) : ai Tryz.prog 295 [.c (.s (l.map ao))] (.one (.c (vb (dO l)) 1)):=by
 refine pci ae Tryz.func295 (λw0 base=>?_);simp;refine aB.intro eok (λi : Nat=>i<=l.length/\∀ n∈l.take i,fB n) (λi=>⟨15,0,[(7,.v (.int .i64 i)),(6,.v (.int .i64 l.length)),(5,.ro (l.map ao))],[]⟩) (λi=>l.length - i) 0 (by simp) (by simp) (λi hi=>?_);by_cases h : i < l.length
 ·simp [h]
  refine aa.pure (vJ l[i]) (by simp) ?_;simp;refine Br.mk (λh1=>?_) (λh1=>?_)
  ·simp
   exact ⟨i + 1,⟨by omega,iY h hi.2 (jY h1)⟩,by omega,ag (by omega)⟩
  ·simp [bY]
   exact rm h (nG h1)
 ·simp [h,gK]
  exact jO (by omega) hi.2
def am (p : Part) : Prop:=((p.kind = 1\/p.kind = 3)/\(0<=p.n/\p.n<=200)/\p.signs = [])\/(p.kind = 2/\p.n = 0/\p.signs.length<=200/\dO p.signs)
theorem qt {p : Part} (h : p.kind = 1\/p.kind = 3) : am p = ((0<=p.n/\p.n<=200)/\p.signs = []):=by
 have h2 : ¬ p.kind = 2:=by omega
 simp [am,h,h2]
theorem fY {p : Part} (h : p.kind = 2) : am p = (p.n = 0/\p.signs.length<=200/\dO p.signs):=by simp [am,h]
theorem uP {p : Part} (h1 : p.kind≠1) (h2 : p.kind≠2) (h3 : p.kind≠3) : ¬ am p:=by simp [am,h1,h2,h3]
theorem we (p : Part) (hl : p.signs.length<=2 ^ 40) : ai Tryz.prog 297 [.agg p.row] (.one (.c (vb (am p)) 1)):=by
 refine pci ae Tryz.func297 (λw0 base=>?_);simp [Part.row];intros;by_cases h13 : p.kind = 1\/p.kind = 3
 ·rw [qt h13]
  rcases h13 with h | h
  ·simp [h]
   refine aa.pure (aO p.n 0 200) (by simp) ?_;by_cases hn : 0<=p.n/\p.n<=200
   ·simp [hn]
   ·have e : dc (0<=p.n/\p.n<=200) = false:=by rw [bY];exact hn
    simp [hn]
  ·simp [h]
   refine aa.pure (aO p.n 0 200) (by simp) ?_;by_cases hn : 0<=p.n/\p.n<=200
   ·simp [hn]
   ·have e : dc (0<=p.n/\p.n<=200) = false:=by rw [bY];exact hn
    simp [hn]
 ·have h1 : ¬ p.kind = 1:=λh=>h13 (.inl h)
  have h3 : ¬ p.kind = 3:=λh=>h13 (.inr h)
  by_cases h2 : p.kind = 2
  ·rw [fY h2]
   simp [h2];by_cases hn : p.n = 0
   ·by_cases hs : p.signs.length<=200
    ·have hs' : (p.signs.length : Int)<=200:=by omega
     simp [hn,hs'];refine aa.pure (nJ p.signs hl) (by simp) ?_;simp [hs]
    ·have hs' : ¬ (p.signs.length : Int)<=200:=by omega
     simp [hn,hs',hs]
   ·simp [hn]
  ·simp [h1,h2,h3,uP]
theorem vK (p : Part) (hl : p.signs.length<=2 ^ 40) : ai Tryz.prog 294 [.agg p.row] (.one (.c (vb (am p)) 1)):=by
 refine pci ae Tryz.func294 (λw0 base=>?_);simp [Part.row];intros;by_cases h13 : p.kind = 1\/p.kind = 3
 ·rw [qt h13]
  rcases h13 with h | h
  ·simp [h]
   refine aa.pure (cI p.n 0 200) (by simp) ?_;by_cases hn : 0<=p.n/\p.n<=200
   ·simp [hn]
   ·have e : dc (0<=p.n/\p.n<=200) = false:=by rw [bY];exact hn
    simp [hn]
  ·simp [h]
   refine aa.pure (cI p.n 0 200) (by simp) ?_;by_cases hn : 0<=p.n/\p.n<=200
   ·simp [hn]
   ·have e : dc (0<=p.n/\p.n<=200) = false:=by rw [bY];exact hn
    simp [hn]
 ·have h1 : ¬ p.kind = 1:=λh=>h13 (.inl h)
  have h3 : ¬ p.kind = 3:=λh=>h13 (.inr h)
  by_cases h2 : p.kind = 2
  ·rw [fY h2]
   simp [h2];by_cases hn : p.n = 0
   ·simp [hn]
    refine aa.pure (ny p.signs hl) (by simp) ?_;have e : ((p.signs.length : Int)<=200) = (p.signs.length<=200):=by simp;omega
    by_cases hg : dO p.signs
    ·simp [hg,e]
    ·simp [hg]
   ·simp [hn]
  ·simp [h1,h2,h3,uP]
def cQ (o : List Part) : Prop:=(∀ p∈o,am p)/\o.length<=600
theorem j5 (o : List Part) (hl : nL aF o<=2 ^ 40) : ai Tryz.prog 213 [.c (.s (o.map Part.row))] (.one (.c (vb (cQ o)) 1)):=by
 refine pci ae Tryz.func213 (λw0 base=>?_);have hle:=aK hl;simp;refine aB.intro eok (λi : Nat=>i<=o.length/\∀ p∈o.take i,am p) (λi=>⟨18,0,[(7,.v (.int .i64 i)),(6,.v (.int .i64 o.length)),(5,.ro (o.map Part.row)),(0,.ro (o.map Part.row))],[]⟩) (λi=>o.length - i) 0 (by simp) (by simp) (λi hi=>?_);by_cases h : i < o.length
 ·simp [h,Part.row]
  intros;refine aa.pure (we o[i] (el hl h)) (by simp [Part.row]) ?_;simp;refine Br.mk (λh1=>?_) (λh1=>?_)
  ·simp
   exact ⟨i + 1,⟨by omega,iY h hi.2 (jY h1)⟩,by omega,ag (by omega)⟩
  ·simp [bY]
   exact λhp=>rm h (nG h1) hp.1
 ·have ha:=jO (by omega) hi.2
  simp [h];refine sY ?_;unfold cQ;exact ⟨λh=>by have:=h.2;omega,λh=>⟨ha,by omega⟩⟩
theorem jU (o : List Part) (hl : nL aF o<=2 ^ 40) : ai Tryz.prog 208 [.c (.s (o.map Part.row))] (.one (.c (vb (cQ o)) 1)):=by
 refine pci ae Tryz.func208 (λw0 base=>?_);have hle:=aK hl;simp;refine aB.intro eok (λi : Nat=>i<=o.length/\∀ p∈o.take i,am p) (λi=>⟨18,0,[(7,.v (.int .i64 i)),(6,.v (.int .i64 o.length)),(5,.ro (o.map Part.row)),(0,.ro (o.map Part.row))],[]⟩) (λi=>o.length - i) 0 (by simp) (by simp) (λi hi=>?_);by_cases h : i < o.length
 ·simp [h,Part.row]
  intros;refine aa.pure (vK o[i] (el hl h)) (by simp [Part.row]) ?_;simp;refine Br.mk (λh1=>?_) (λh1=>?_)
  ·simp
   exact ⟨i + 1,⟨by omega,iY h hi.2 (jY h1)⟩,by omega,ag (by omega)⟩
  ·simp [bY]
   exact λhp=>rm h (nG h1) hp.1
 ·have ha:=jO (by omega) hi.2
  simp [h];refine sY ?_;unfold cQ;exact ⟨λh=>by have:=h.2;omega,λh=>⟨ha,by omega⟩⟩
def co (f : Part->Int) : List Part->Int
 | []=>0
 | p :: o=>f p + co f o
theorem qj {f : Part->Int} : ∀ (a b : List Part),co f (a ++ b) = co f a + co f b
 | [],b=>by simp [co]
 | p :: a,b=>by simp only [List.cons_append,co,qj a b];omega
theorem fG {f : Part->Int} {o : List Part} {i : Nat} (h : i < o.length) : co f (o.take (i + 1)) = co f (o.take i) + f o[i]:=by
 rw [<- List.take_append_getElem h,qj];simp [co]
theorem fW {f g : Part->Int} : ∀ {o : List Part},(∀ p∈o,f p = g p)->co f o = co g o
 | [],_=>rfl
 | p :: o, h => by
   simp only [co];rw [h p (List.mem_cons_self ..),fW (λq hq=>h q (List.mem_cons_of_mem _ hq))]
theorem jc {f g : Part->Int} : ∀ (o : List Part),co (λp=>f p + g p) o = co f o + co g o
 | []=>by simp [co]
 | p :: o=>by simp only [co,jc o];omega
def fK (p : Part) : Int:=if p.kind = 1 then p.n else 0
def fP (p : Part) : Int:=if p.kind = 2 then p.signs.length else 0
def fD (p : Part) : Int:=if p.kind = 1 then 0 else if p.kind = 2 then 0 else p.n
def lw (k : Int) (p : Part) : Int:=if p.kind = k then 0 else p.n + p.signs.length
theorem am.bounds {p : Part} (h : am p) : (p.kind = 1\/p.kind = 2\/p.kind = 3)/\0<=p.n/\p.n<=200/\p.signs.length<=200/\(p.kind = 2->p.n = 0)/\(p.kind≠2->p.signs = []):=by
 rcases h with ⟨h1,h2,h3⟩ | ⟨h1,h2,h3,h4⟩
 ·refine ⟨by omega,by omega,by omega,by simp [h3],by omega,λ_=>h3⟩
 ·refine ⟨by omega,by omega,by omega,h3,λ_=>h2,λh=>absurd h1 h⟩
theorem MN {p : Part} (h : am p) : lw 2 p = fK p + fD p:=by
 obtain ⟨h1,h2,h3,h4,h5,h6⟩:=h.bounds;unfold lw fK fD;by_cases k2 : p.kind = 2
 ·simp [k2]
 ·by_cases k1 : p.kind = 1<;>simp [k1,k2,h6 k2]
theorem MM {p : Part} (h : am p) : lw 3 p = fK p + fP p:=by
 obtain ⟨h1,h2,h3,h4,h5,h6⟩:=h.bounds;unfold lw fK fP;rcases h1 with k | k | k
 ·simp [k,h6 (by omega)]
 ·simp [k,h5 k]
 ·simp [k]
theorem dV {f : Part->Int} {B : Int} (hf : ∀ p,am p->0<=f p/\f p<=B) : ∀ {o : List Part},(∀ p∈o,am p)->0<=co f o/\co f o<=B * o.length
 | [],_=>by simp [co]
 | p :: o, h => by
   have h1:=hf p (h p (List.mem_cons_self ..));have h2:=dV hf (o:=o) (λq hq=>h q (List.mem_cons_of_mem _ hq));simp only [co,List.length_cons];rw [show B * ((o.length + 1 : Nat) : Int) = B * o.length + B by rw [Int.natCast_add];simp [Int.mul_add]];omega
theorem Gz {p : Part} (h : am p) : 0<=fK p/\fK p<=200:=by have:=h.bounds;unfold fK;split<;>omega
theorem PF {p : Part} (h : am p) : 0<=fP p/\fP p<=200:=by have:=h.bounds;unfold fP;split<;>omega
theorem GD {p : Part} (h : am p) : 0<=fD p/\fD p<=200:=by have:=h.bounds;unfold fD;split<;>(try split)<;>omega
theorem MF {k : Int} {p : Part} (h : am p) : 0<=lw k p/\lw k p<=400:=by have:=h.bounds;unfold lw;split<;>omega
theorem mK {o : List Part} (h : ∀ p∈o,am p) (i : Nat) : ∀ p∈o.take i,am p:=λp hp=>h p (List.mem_of_mem_take hp)
theorem LD (p : Part) (hp : am p) : ai Tryz.prog 328 [.agg p.row] (.one (.c (vi (p.n + p.signs.length)) 1)):=by
 refine pci ae Tryz.func328 (λw0 base=>?_);have:=hp.bounds;have e : Go.IntKind.i64.wrap (p.n + (p.signs.length : Int)) = p.n + p.signs.length:=Go.IntWalk.i64_in _ (by omega);simp [Part.row,e]
open Classical in
noncomputable def sizeOf (o : List Part) (k : Int) : Int:=if cQ o then co (lw k) o else 0
theorem o4 (o : List Part) (hl : nL aF o<=2 ^ 40) (k : Int) : ai Tryz.prog 331 [.c (.s (o.map Part.row)),.c (vi k)] (.one (.c (vi (sizeOf o k)) 1)):=by
 refine pci ae Tryz.func331 (λw0 base=>?_);have hle:=aK hl;simp;refine aa.pure (j5 o hl) (by simp) ?_;by_cases ho : cQ o
 ·have hr : sizeOf o k = co (lw k) o:=by unfold sizeOf;rw [if_pos ho]
  simp [ho,hr];refine aB.intro eok (λi : Nat=>i<=o.length) (λi=>⟨27,0,[(13,.v (.int .i64 i)),(12,.v (.int .i64 o.length)),(11,.ro (o.map Part.row)),(5,.v (.int .i64 (co (lw k) (o.take i)))),(1,.v (.int .i64 k))],[]⟩) (λi=>o.length - i) 0 (by simp) (by simp [co]) (λi hi=>?_);by_cases h : i < o.length
  ·have hp:=ho.1 _ (List.getElem_mem h)
   have hb:=dV (f:=lw k) (λp h=>MF h) (mK ho.1 i);have hb2:=hp.bounds;have hlen:=ho.2;have hlt : (o.take i).length<=600:=by simp;omega
   have hs:=fG (f:=lw k) h;obtain ⟨q,hq⟩ : ∃ q,co (lw k) (o.take i) = q:=⟨_,rfl⟩;have e : Go.IntKind.i64.wrap ((i : Int) + 1) = ((i + 1 : Nat) : Int):=ag (by omega);rw [hq] at hs hb;simp [h,Part.row,hq];intros;by_cases hk : o[i].kind = k
   ·simp [hk]
    refine ⟨i + 1,by omega,by omega,e,?_⟩;rw [hs];simp [lw,hk]
   ·simp [hk]
    refine aa.pure (LD o[i] hp) (by simp [Part.row]) ?_;have e2 : Go.IntKind.i64.wrap (q + (o[i].n + (o[i].signs.length : Int))) = q + (o[i].n + o[i].signs.length):=Go.IntWalk.i64_in _ (by omega);simp [e2];refine ⟨i + 1,by omega,by omega,e,?_⟩;rw [hs];simp [lw,hk]
  ·simp [h]
   rw [List.take_of_length_le (by omega)]
 ·have e : dc (cQ o) = false:=by rw [bY];exact ho
  have hr : sizeOf o k = 0:=by unfold sizeOf;rw [if_neg ho]
  simp [e,hr]
open Classical in
noncomputable def cw (o : List Part) : Int × Int × Int:=if cQ o then (co fK o,co fP o,co fD o) else (0,0,0)
theorem yy (o : List Part) (hl : nL aF o<=2 ^ 40) : ai Tryz.prog 325 [.c (.s (o.map Part.row))] (.tup [.c (vi (cw o).1) 1,.c (vi (cw o).2.1) 1,.c (vi (cw o).2.2) 1]):=by
 refine pci ae Tryz.func325 (λw0 base=>?_);have hle:=aK hl;simp;refine aa.pure (jU o hl) (by simp) ?_;by_cases ho : cQ o
 ·have hr : cw o = (co fK o,co fP o,co fD o):=by unfold cw;rw [if_pos ho]
  simp [ho,hr];refine aB.intro eok (λi : Nat=>i<=o.length) (λi=>⟨42,0,[(15,.v (.int .i64 i)),(14,.v (.int .i64 o.length)),(13,.ro (o.map Part.row)),(5,.v (.int .i64 (co fK (o.take i)))),(6,.v (.int .i64 (co fP (o.take i)))),(7,.v (.int .i64 (co fD (o.take i))))],[]⟩) (λi=>o.length - i) 0 (by simp) (by simp [co]) (λi hi=>?_);by_cases h : i < o.length
  ·have hp:=ho.1 _ (List.getElem_mem h)
   have hb1:=dV (f:=fK) (λp h=>Gz h) (mK ho.1 i);have hb2:=dV (f:=fP) (λp h=>PF h) (mK ho.1 i);have hb3:=dV (f:=fD) (λp h=>GD h) (mK ho.1 i);have hpb:=hp.bounds;have hlen:=ho.2;have hlt : (o.take i).length<=600:=by simp;omega
   have hs1:=fG (f:=fK) h;have hs2:=fG (f:=fP) h;have hs3:=fG (f:=fD) h;obtain ⟨q1,hq1⟩ : ∃ q,co fK (o.take i) = q:=⟨_,rfl⟩;obtain ⟨q2,hq2⟩ : ∃ q,co fP (o.take i) = q:=⟨_,rfl⟩;obtain ⟨q3,hq3⟩ : ∃ q,co fD (o.take i) = q:=⟨_,rfl⟩;have e : Go.IntKind.i64.wrap ((i : Int) + 1) = ((i + 1 : Nat) : Int):=ag (by omega);rw [hq1] at hs1 hb1;rw [hq2] at hs2 hb2;rw [hq3] at hs3 hb3;simp [h,Part.row,hq1,hq2,hq3];intros;have e1 : Go.IntKind.i64.wrap (q1 + o[i].n) = q1 + o[i].n:=Go.IntWalk.i64_in _ (by omega);have e2 : Go.IntKind.i64.wrap (q2 + (o[i].signs.length : Int)) = q2 + o[i].signs.length:=Go.IntWalk.i64_in _ (by omega);have e3 : Go.IntKind.i64.wrap (q3 + o[i].n) = q3 + o[i].n:=Go.IntWalk.i64_in _ (by omega);by_cases k1 : o[i].kind = 1
   ·simp [k1,e1]
    refine ⟨i + 1,by omega,by omega,e,?_,?_,?_⟩
    ·rw [hs1];simp [fK,k1]
    ·rw [hs2];simp [fP,k1]
    ·rw [hs3];simp [fD,k1]
   ·by_cases k2 : o[i].kind = 2
    ·simp [k2,e2]
     refine ⟨i + 1,by omega,by omega,e,?_,?_,?_⟩
     ·rw [hs1];simp [fK,k2]
     ·rw [hs2];simp [fP,k2]
     ·rw [hs3];simp [fD,k2]
    ·simp [k1,k2,e3]
     refine ⟨i + 1,by omega,by omega,e,?_,?_,?_⟩
     ·rw [hs1];simp [fK,k1]
     ·rw [hs2];simp [fP,k2]
     ·rw [hs3];simp [fD,k1,k2]
  ·simp [h]
   rw [List.take_of_length_le (by omega)];simp
 ·have e : dc (cQ o) = false:=by rw [bY];exact ho
  have hr : cw o = (0,0,0):=by unfold cw;rw [if_neg ho]
  simp [e,hr]
noncomputable def bp (o : List Part) : Int:=(cw o).1 + (cw o).2.2
noncomputable def jC (o : List Part) : Int:=(cw o).1 + (cw o).2.1
theorem yj (o : List Part) : sizeOf o 2 = bp o:=by
 unfold sizeOf bp cw
 split
 ·rename_i h
  show _ = co fK o + co fD o
  rw [<- jc];exact fW (λp hp=>MN (h.1 p hp))
 ·rfl
theorem CG (o : List Part) : sizeOf o 3 = jC o:=by
 unfold sizeOf jC cw
 split
 ·rename_i h
  show _ = co fK o + co fP o
  rw [<- jc];exact fW (λp hp=>MM (h.1 p hp))
 ·rfl
theorem yz (o : List Part) : (0<=(cw o).1/\(cw o).1<=120000)/\(0<=(cw o).2.1/\(cw o).2.1<=120000)/\0<=(cw o).2.2/\(cw o).2.2<=120000:=by
 unfold cw
 split
 ·rename_i h
  have h1:=dV (f:=fK) (λp h=>Gz h) h.1;have h2:=dV (f:=fP) (λp h=>PF h) h.1;have h3:=dV (f:=fD) (λp h=>GD h) h.1;have h4:=h.2;simp only;omega
 ·simp
theorem gG (o : List Part) (hl : nL aF o<=2 ^ 40) : ai Tryz.prog 253 [.c (.s (o.map Part.row))] (.one (.c (vi (bp o)) 1)):=by
 refine pci ae Tryz.func253 (λw0 base=>?_);simp;refine aa.pure (o4 o hl 2) (by simp) ?_;simp [yj]
theorem AE (o : List Part) (hl : nL aF o<=2 ^ 40) : ai Tryz.prog 245 [.c (.s (o.map Part.row))] (.one (.c (vi (jC o)) 1)):=by
 refine pci ae Tryz.func245 (λw0 base=>?_);simp;refine aa.pure (o4 o hl 3) (by simp) ?_;simp [CG]
theorem gv (o : List Part) (hl : nL aF o<=2 ^ 40) : ai Tryz.prog 387 [.c (.s (o.map Part.row))] (.one (.c (vi (bp o)) 1)):=by
 refine pci ae Tryz.func387 (λw0 base=>?_);simp;refine aa.pure (yy o hl) (by simp) ?_;have:=yz o;have e : Go.IntKind.i64.wrap ((cw o).1 + (cw o).2.2) = bp o:=Go.IntWalk.i64_in _ (by omega);simp [e]
theorem zJ (o : List Part) (hl : nL aF o<=2 ^ 40) : ai Tryz.prog 240 [.c (.s (o.map Part.row))] (.one (.c (vi (jC o)) 1)):=by
 refine pci ae Tryz.func240 (λw0 base=>?_);simp;refine aa.pure (yy o hl) (by simp) ?_;have:=yz o;have e : Go.IntKind.i64.wrap ((cw o).1 + (cw o).2.1) = jC o:=Go.IntWalk.i64_in _ (by omega);simp [e]
def bJ (o : List Part) : Prop:=cQ o/\bp o<=200/\jC o<=200
theorem dZ (o : List Part) (hl : nL aF o<=2 ^ 40) : ai Tryz.prog 255 [.c (.s (o.map Part.row))] (.one (.c (vb (bJ o)) 1)):=by
 refine pci ae Tryz.func255 (λw0 base=>?_);simp;refine aa.pure (j5 o hl) (by simp) ?_;by_cases h : cQ o
 ·simp [h]
  refine aa.pure (gG o hl) (by simp) ?_;by_cases h1 : bp o<=200
  ·simp [h1]
   refine aa.pure (AE o hl) (by simp) ?_;simp [bJ,h,h1]
  ·simp [h1,bJ,h]
 ·simp [h,bJ]
theorem dW (o : List Part) (hl : nL aF o<=2 ^ 40) : ai Tryz.prog 382 [.c (.s (o.map Part.row))] (.one (.c (vb (bJ o)) 1)):=by
 refine pci ae Tryz.func382 (λw0 base=>?_);simp;refine aa.pure (jU o hl) (by simp) ?_;by_cases h : cQ o
 ·simp [h]
  refine aa.pure (gv o hl) (by simp) ?_;by_cases h1 : bp o<=200
  ·simp [h1]
   refine aa.pure (zJ o hl) (by simp) ?_;simp [bJ,h,h1]
  ·simp [h1,bJ,h]
 ·simp [h,bJ]
def aJ (L : List Part) (P : List Int) (D : Int) : List Part:=L ++ ((if P = [] then [] else [⟨2,0,P⟩]) ++ (if 0 < D then [⟨3,D,[]⟩] else []))
def bP (L : List Part) (n : Int) : List Part:=
 if h : 0 < L.length then
  if (L[L.length - 1]'(by omega)).kind = 1 then L.set (L.length - 1) ⟨1,(L[L.length - 1]'(by omega)).n + n,(L[L.length - 1]'(by omega)).signs⟩ else L ++ [⟨1,n,[]⟩]
 else [⟨1,n,[]⟩]
def dg (s : List Part × List Int × Int) (p : Part) : List Part × List Int × Int:=
 if p.kind = 2 then (s.1,s.2.1 ++ p.signs,s.2.2)
 else if p.kind = 3 then (s.1,s.2.1,s.2.2 + p.n)
 else if 0 < p.n then (bP (aJ s.1 s.2.1 s.2.2) p.n,[],0) else s
def a8 (o : List Part) : List Part × List Int × Int:=o.foldl dg ([],[],0)
def normal (o : List Part) : List Part:=aJ (a8 o).1 (a8 o).2.1 (a8 o).2.2
theorem gg {o : List Part} {i : Nat} (h : i < o.length) : a8 (o.take (i + 1)) = dg (a8 (o.take i)) o[i]:=by
 unfold a8;rw [<- List.take_append_getElem h,List.foldl_append];rfl
structure NbOk (m : Nat) (s : List Part × List Int × Int) : Prop where
 l : s.1.length<=3 * m
 p : s.2.1.length<=200 * m
 d0 : 0<=s.2.2
 d : s.2.2<=200 * m
 q : ∀ q∈s.1,0<=q.n/\q.n<=200 * m
theorem gi (L : List Part) (P : List Int) (D : Int) : (aJ L P D).length<=L.length + 2:=by
 unfold aJ
 split<;>split<;>simp
theorem gh {L : List Part} {P : List Int} {D B : Int} (h0 : 0<=D) (hD : D<=B) (hL : ∀ q∈L,0<=q.n/\q.n<=B) : ∀ q∈aJ L P D,0<=q.n/\q.n<=B:=by
 intro q hq;unfold aJ at hq;simp only [List.mem_append] at hq;rcases hq with hq | hq | hq
 ·exact hL q hq
 ·split at hq
  ·simp at hq
  ·simp at hq;subst hq;simp;omega
 ·split at hq
  ·simp at hq;subst hq;simp;omega
  ·simp at hq
theorem kA {o : List Part} (ho : ∀ p∈o,am p) : ∀ (i : Nat),i<=o.length->NbOk i (a8 (o.take i))
 | 0, _ => by
   simp [a8];exact ⟨by simp,by simp,by simp,by simp,by simp⟩
 | i + 1, hi => by
   have ih:=kA ho i (by omega);have hlt : i < o.length:=by omega
   rw [gg hlt];have hp:=(ho _ (List.getElem_mem hlt)).bounds;generalize a8 (o.take i) = s at ih;generalize o[i] = p at hp;obtain ⟨L,P,D⟩:=s;obtain ⟨h1,h2,h3,h4,h5⟩:=ih;simp only at h1 h2 h3 h4 h5;have w : ∀ q∈L,0<=q.n/\q.n<=200 * ((i + 1 : Nat) : Int):=λq hq=>by have:=h5 q hq;omega
   unfold dg
   split
   ·exact ⟨by simp;omega,by simp;omega,h3,by simp;omega,w⟩
   ·split
    ·exact ⟨by simp;omega,by simp;omega,by simp;omega,by simp;omega,w⟩
    ·split
     ·have f1:=gi L P D
      have f2:=gh (P:=P) h3 h4 h5;refine ⟨?_,by simp,by simp,by simp;omega,?_⟩
      ·simp only [bP]
       split
       ·split<;>simp<;>omega
       ·simp;omega
      ·simp only [bP]
       intro q hq
       split at hq
       ·split at hq
        ·rcases List.mem_or_eq_of_mem_set hq with hq | rfl
         ·have:=f2 q hq;omega
         ·have:=f2 _ (List.getElem_mem (show (aJ L P D).length - 1 < (aJ L P D).length by omega))
          simp only;omega
        ·rcases List.mem_append.1 hq with hq | hq
         ·have:=f2 q hq;omega
         ·simp at hq;subst hq;simp;omega
       ·simp at hq;subst hq;simp;omega
     ·exact ⟨by simp;omega,by simp;omega,h3,by simp;omega,w⟩
theorem pV {L : List Part} {P : List Int} {D : Int} (hP : ¬ P = []) (hD : 0 < D) : aJ L P D = L ++ [⟨2,0,P⟩] ++ [⟨3,D,[]⟩]:=by simp [aJ,hP,hD]
theorem pU {L : List Part} {P : List Int} {D : Int} (hP : ¬ P = []) (hD : ¬ 0 < D) : aJ L P D = L ++ [⟨2,0,P⟩]:=by simp [aJ,hP,hD]
theorem pT {L : List Part} {P : List Int} {D : Int} (hP : P = []) (hD : 0 < D) : aJ L P D = L ++ [⟨3,D,[]⟩]:=by simp [aJ,hP,hD]
theorem pS {L : List Part} {P : List Int} {D : Int} (hP : P = []) (hD : ¬ 0 < D) : aJ L P D = L:=by simp [aJ,hP,hD]
theorem mj {w0 : World} {bF bG : Nat->Prop} {bl : Bool} {st : ASt} {dst : Option Nat} {K : ASt->Prop} {L : List Part} {P : List Int} {D : Int} {b3 b4 b5 : Nat} {Hl Hp : Hd} (hL : L.length<=2 ^ 20) (_hP : P.length<=2 ^ 40)
 (g48 : st.h.get 48 = .vars b3 63 [.sl 5000 Hl 3 0 L.length]) (g64 : st.h.get 64 = .vars b4 26 [.sl 5001 Hp 1 0 P.length]) (g80 : st.h.get 80 = .vars b5 3 [.v (.int .i64 D)])
 (g5000 : st.h.get 5000 = .rows Hl 3 (L.map Part.row) true) (g5001 : st.h.get 5001 = .rows Hp 1 (P.map ao) true)
 (hK : ∀ Hl' h',AH.get h' 48 = .vars b3 63 [.sl 5000 Hl' 3 0 (aJ L P D).length] -> AH.get h' 5000 = .rows Hl' 3 ((aJ L P D).map Part.row) true -> AH.get h' 64 = .vars b4 26 [.nil] -> AH.get h' 80 = .vars b5 3 [.v (.int .i64 0)] ->
  AH.get h' 128 = st.h.get 128->aV ⟨st.n,st.kb,st.t,h'⟩ dst (.tup []) K) : aa ⟨Tryz.prog,tt,w0,⟨bF,bG,bl,λ_=>True⟩⟩ 374 [.p 64 b4 0,.p 48 b3 0,.p 80 b5 0] st dst K:=by
 refine inl ae Tryz.func374 20000 (λw1 F=>?_);simp [g64];by_cases hp : P = []
 ·have hp0 : ¬ 0 < P.length:=by simp [hp]
  simp [hp0,g80];by_cases hd : 0 < D
  ·simp [hd,g48,g5000,g80,g64]
   intro b;refine ⟨by omega,λH=>hK H _ ?_ ?_ ?_ ?_ ?_⟩<;>simp [pT hp hd,Part.row]
  ·simp [hd,g80,g64]
   refine hK Hl _ ?_ ?_ ?_ ?_ ?_<;>simp [pS hp hd,g48,g5000]
 ·have hp0 : 0 < P.length:=List.length_pos_iff.2 hp
  simp [hp0,g80,g48,g5000,g5001,g64];intro b;refine ⟨by omega,λH=>?_⟩;by_cases hd : 0 < D
  ·simp [hd,g80,g64]
   intro b2;refine ⟨by omega,λH2=>hK H2 _ ?_ ?_ ?_ ?_ ?_⟩<;>simp [pV hp hd,Part.row]
  ·simp [hd,g80,g64]
   refine hK H _ ?_ ?_ ?_ ?_ ?_<;>simp [pU hp hd,Part.row]
theorem gV {F : List Part} {m : Nat} (h : m < F.length) {g : List CD->List CD} {p : Part} (hg : g F[m].row = p.row) : (F.map Part.row).modify m g = (F.set m p).map Part.row:=by
 apply List.ext_getElem?
 intro j;rw [List.getElem?_modify];simp only [List.getElem?_map,List.getElem?_set];by_cases hj : m = j
 ·subst hj
  simp [h,hg]
 ·simp [hj]
theorem r3 (o : List Part) (ho : ∀ p∈o,am p) (hl : o.length<=10000) : ai Tryz.prog 330 [.c (.s (o.map Part.row))] (.one (.c (.s ((normal o).map Part.row)) 3)):=by
 refine pci ae Tryz.func330 (λw0 base=>?_);simp;intro b3 b4 b5
 refine ah eok (λx : Nat × Hd × Hd=>x.1<=o.length) (λx=>⟨73,0,[(13,.v (.int .i64 x.1)),(12,.v (.int .i64 o.length)),(11,.ro (o.map Part.row)),(3,.p 48 b3 0),(4,.p 64 b4 0),(5,.p 80 b5 0),(6,.clo 374 [.p 64 b4 0,.p 48 b3 0,.p 80 b5 0])],
  [(48, .vars b3 63 [.sl 5000 x.2.1 3 0 (a8 (o.take x.1)).1.length]), (64, .vars b4 26 [.sl 5001 x.2.2 1 0 (a8 (o.take x.1)).2.1.length]), (80, .vars b5 3 [.v (.int .i64 (a8 (o.take x.1)).2.2)]),
   (5000,.rows x.2.1 3 ((a8 (o.take x.1)).1.map Part.row) true),(5001,.rows x.2.2 1 ((a8 (o.take x.1)).2.1.map ao) true)]⟩) (λx=>o.length - x.1) (0,none,none) (by simp) (by simp [a8]) (λx hx=>Ent.refl ?_)
 obtain ⟨i,Hl,Hp⟩:=x;simp only at hx ⊢;have hok:=kA ho i hx;by_cases h : i < o.length
 ·have hs:=gg h
  have hpb:=(ho _ (List.getElem_mem h)).bounds;generalize a8 (o.take i) = s at hok hs;obtain ⟨L,P,D⟩:=s;obtain ⟨k1,k2,k3,k4,k5⟩:=hok;simp only at k1 k2 k3 k4 k5;have e : Go.IntKind.i64.wrap ((i : Int) + 1) = ((i + 1 : Nat) : Int):=ag (by omega);simp [h,Part.row];intro b8;by_cases c2 : o[i].kind = 2
  ·simp [c2]
   refine ⟨by omega,λH=>?_⟩;refine Ent.refl ⟨i + 1,by omega,by omega,Hl,H,?_⟩;rw [hs];simp [dg,c2,e]
  ·by_cases c3 : o[i].kind = 3
   ·have e3 : Go.IntKind.i64.wrap (D + o[i].n) = D + o[i].n:=Go.IntWalk.i64_in _ (by omega)
    simp [c3,e3];refine Ent.refl ⟨i + 1,by omega,by omega,Hl,Hp,?_⟩;rw [hs];simp [dg,c3,e]
   ·by_cases cn : 0 < o[i].n
    ·simp [c2,c3,cn]
     refine mj (L:=L) (P:=P) (D:=D) (Hl:=Hl) (Hp:=Hp) (by omega) (by omega) (by simp) (by simp) (by simp) (by simp) (by simp) (λHl' h' g48 g5000 g64 g80 g128=>?_);have f1:=gi L P D;have f2:=gh (P:=P) k3 k4 k5;have hstep : dg (L,P,D) o[i] = (bP (aJ L P D) o[i].n,[],0):=by simp [dg,c2,c3,cn]
     rw [hstep] at hs;generalize aJ L P D = F at f1 f2 g48 g5000 hs;simp at g128;by_cases hF : 0 < F.length
     ·obtain ⟨m,hm⟩ : ∃ m,F.length = m + 1:=⟨F.length - 1,by omega⟩
      have hmlt : m < F.length:=by omega
      have em : Go.IntKind.i64.wrap (m : Int) = m:=eV (by omega)
      have hk : bP F o[i].n = if F[m].kind = 1 then F.set m ⟨1,F[m].n + o[i].n,F[m].signs⟩ else F ++ [⟨1,o[i].n,[]⟩]:=by
       have e0 : F.length - 1 = m:=by omega
       simp [bP,hF,e0]
      have hq:=f2 _ (List.getElem_mem hmlt);simp [g48,g5000,hm,em,Part.row];by_cases ck : F[m].kind = 1
      ·rw [if_pos ck] at hk
       have em2 : Go.IntKind.i64.wrap (F[m].n + o[i].n) = F[m].n + o[i].n:=Go.IntWalk.i64_in _ (by omega);have hmm : (m : Int) < m + 1:=by omega
       simp [ck,hmm];refine drw eok mix [0,1,2,3,4,5,6,7,8,9,10] [11] (.c 11 11 2045 2 (.l 11 2) .s) ?_;simp [g48,g5000,g128,hm,em,Part.row,ck,em2,hmm];refine Ent.kill 5001 (Ent.refl ⟨i + 1,by omega,by omega,Hl',none,?_⟩);rw [hs,hk];have hmod:=gV (F:=F) (m:=m) hmlt (g:=λrow=>er row 1 [CD.v (Value.int IntKind.i64 (F[m].n + o[i].n))]) (p:=⟨1,F[m].n + o[i].n,F[m].signs⟩) (by simp [Part.row,ck]);simp [e,g48,g64,g80,hm,hmod]
      ·rw [if_neg ck] at hk
       simp [ck,g48,g5000,g128,hm];refine ⟨by omega,λb=>⟨by omega,λH=>?_⟩⟩;refine Ent.kill 5001 (Ent.refl ⟨i + 1,by omega,by omega,H,none,?_⟩);rw [hs,hk];simp [e,Part.row,g64,g80,hm]
     ·have hF0 : F = []:=List.eq_nil_of_length_eq_zero (by omega)
      subst hF0;have hk : bP [] o[i].n = [⟨1,o[i].n,[]⟩]:=by simp [bP]
      simp [g48,g5000,g128];intro b H;refine Ent.kill 5001 (Ent.refl ⟨i + 1,by omega,by omega,H,none,?_⟩);rw [hs,hk];simp [e,Part.row,g64,g80]
    ·simp [c2,c3,cn]
     refine Ent.refl ⟨i + 1,by omega,by omega,Hl,Hp,?_⟩;rw [hs];simp [dg,c2,c3,cn,e]
 ·have he : o.take i = o:=List.take_of_length_le (by omega)
  rw [he] at hok ⊢;have hn : normal o = aJ (a8 o).1 (a8 o).2.1 (a8 o).2.2:=rfl;rw [hn];generalize a8 o = s at hok;obtain ⟨L,P,D⟩:=s;obtain ⟨k1,k2,k3,k4,k5⟩:=hok;simp only at k1 k2 k3 k4 k5;simp [h];refine mj (L:=L) (P:=P) (D:=D) (Hl:=Hl) (Hp:=Hp) (by omega) (by omega) (by simp) (by simp) (by simp) (by simp) (by simp) (λHl' h' g48 g5000 g64 g80 g128=>?_);simp [g48,g5000]
theorem l0 {w0 : World} {bF bG : Nat->Prop} {bl : Bool} {st : ASt} {dst : Option Nat} {K : ASt->Prop} {L : List Part} {P : List Int} {D : Int} {b : Nat} {Hl Hp : Hd} (hL : L.length<=2 ^ 20) (_hP : P.length<=2 ^ 40)
 (g160 : st.h.get 160 = .vars b 363 [.sl 5000 Hl 3 0 L.length,.sl 5001 Hp 1 0 P.length,.v (.int .i64 D)])
 (g5000 : st.h.get 5000 = .rows Hl 3 (L.map Part.row) true) (g5001 : st.h.get 5001 = .rows Hp 1 (P.map ao) true)
 (hK : ∀ Hl' h',AH.get h' 160 = .vars b 363 [.sl 5000 Hl' 3 0 (aJ L P D).length,.nil,.v (.int .i64 0)] -> AH.get h' 5000 = .rows Hl' 3 ((aJ L P D).map Part.row) true ->
  AH.get h' 80 = st.h.get 80->aV ⟨st.n,st.kb,st.t,h'⟩ dst (.tup []) K) : aa ⟨Tryz.prog,tt,w0,⟨bF,bG,bl,λ_=>True⟩⟩ 408 [.p 160 b 0] st dst K:=by
 refine inl ae Tryz.func408 20000 (λw1 F=>?_);simp [g160];by_cases hp : P = []
 ·have hp0 : ¬ 0 < P.length:=by simp [hp]
  simp [hp0,g160];by_cases hd : 0 < D
  ·simp [hd]
   refine drw eok mix [0,1,2,3,4,5,6,7,8,9,12,13] [10,11,14] (.c 12 10 4 4091 (.c 12 11 128 3963 (.c 12 14 3961 2 (.l 12 2) .s) .s) .s) ?_;simp [g160,g5000];intro b1;refine ⟨by omega,λH=>hK H _ ?_ ?_ ?_⟩<;>simp [pT hp hd,Part.row]
  ·simp [hd,g160]
   refine hK Hl _ ?_ ?_ ?_<;>simp [pS hp hd,g5000]
 ·have hp0 : 0 < P.length:=List.length_pos_iff.2 hp
  simp [hp0];refine drw eok mix [0,1,2,3,4,5,6,7,8,9,12,13] [10,11,14] (.c 12 10 4 4091 (.c 12 11 128 3963 (.c 12 14 3961 2 (.l 12 2) .s) .s) .s) ?_;simp [g160,g5000,g5001];intro b1;refine ⟨by omega,λH=>?_⟩;by_cases hd : 0 < D
  ·simp [hd]
   refine drw eok mix [0,1,2,3,4,5,6,7,8,9,12,13] [10,11,14] (.c 12 10 4 4091 (.c 12 11 128 3963 (.c 12 14 3961 2 (.l 12 2) .s) .s) .s) ?_;simp;intro b2;refine ⟨by omega,λH2=>hK H2 _ ?_ ?_ ?_⟩<;>simp [pV hp hd,Part.row]
  ·simp [hd]
   refine hK H _ ?_ ?_ ?_<;>simp [pU hp hd,Part.row]
theorem tR {w0 : World} {bF bG : Nat->Prop} {bl : Bool} {st : ASt} {dst : Option Nat} {K : ASt->Prop} {L : List Part} {P : List Int} {D n : Int} {b : Nat} {Hl Hp : Hd} (hL : L.length<=2 ^ 19) (hP : P.length<=2 ^ 40) (hn0 : 0 < n) (hn : n<=200) (hF : ∀ q∈aJ L P D,0<=q.n/\q.n<=2 ^ 40)
 (g160 : st.h.get 160 = .vars b 363 [.sl 5000 Hl 3 0 L.length,.sl 5001 Hp 1 0 P.length,.v (.int .i64 D)])
 (g5000 : st.h.get 5000 = .rows Hl 3 (L.map Part.row) true) (g5001 : st.h.get 5001 = .rows Hp 1 (P.map ao) true)
 (hK : ∀ Hl' h',AH.get h' 160 = .vars b 363 [.sl 5000 Hl' 3 0 (bP (aJ L P D) n).length,.nil,.v (.int .i64 0)] -> AH.get h' 5000 = .rows Hl' 3 ((bP (aJ L P D) n).map Part.row) true ->
  AH.get h' 80 = st.h.get 80->aV ⟨st.n,st.kb,st.t,h'⟩ dst (.tup []) K) : aa ⟨Tryz.prog,tt,w0,⟨bF,bG,bl,λ_=>True⟩⟩ 397 [.p 160 b 0,.v (.int .i64 n)] st dst K:=by
 refine inl ae Tryz.func397 30000 (λw1 F=>?_);have n0 : ¬ n = 0:=by omega
 simp [n0];refine l0 (L:=L) (P:=P) (D:=D) (Hl:=Hl) (Hp:=Hp) (by omega) hP (by simp [g160]) (by simp [g5000]) (by simp [g5001]) (λHl' h' k160 k5000 k80=>?_);have f1:=gi L P D;generalize aJ L P D = F at f1 hF k160 k5000 hK;by_cases hF0 : 0 < F.length
 ·obtain ⟨m,hm⟩ : ∃ m,F.length = m + 1:=⟨F.length - 1,by omega⟩
  have hmlt : m < F.length:=by omega
  have hmm : (m : Int) < m + 1:=by omega
  have em : Go.IntKind.i64.wrap (m : Int) = m:=eV (by omega)
  have hk : bP F n = if F[m].kind = 1 then F.set m ⟨1,F[m].n + n,F[m].signs⟩ else F ++ [⟨1,n,[]⟩]:=by
   have e0 : F.length - 1 = m:=by omega
   simp [bP,hF0,e0]
  have hq:=hF _ (List.getElem_mem hmlt);have em2 : Go.IntKind.i64.wrap (F[m].n + n) = F[m].n + n:=Go.IntWalk.i64_in _ (by omega);simp [k160,k5000,hm,em,hmm,Part.row];by_cases ck : F[m].kind = 1
  ·rw [if_pos ck] at hk
   simp [ck];refine drw eok mix [0,1,2,3,4,5,6,7,8,9,10,11,12,13,14,15,16,17,18] [19] (.c 19 19 524285 2 (.l 19 2) .s) ?_;simp [k160,k5000,hm,em,hmm,Part.row,ck,em2];have hmod:=gV (F:=F) (m:=m) hmlt (g:=λrow=>er row 1 [CD.v (Value.int IntKind.i64 (F[m].n + n))]) (p:=⟨1,F[m].n + n,F[m].signs⟩) (by simp [Part.row,ck]);refine hK Hl' _ ?_ ?_ ?_
   ·simp [k160,hk,hm]
   ·simp [hk,hmod]
   ·simp [k80]
  ·rw [if_neg ck] at hk
   simp [ck,k160,k5000,hm];intro b1;refine ⟨by omega,λH=>hK H _ ?_ ?_ ?_⟩<;>simp [hk,hm,Part.row,k80]
 ·have hF1 : F = []:=List.eq_nil_of_length_eq_zero (by omega)
  subst hF1;have hk : bP [] n = [⟨1,n,[]⟩]:=by simp [bP]
  simp [k160,k5000];intro b1 H;refine hK H _ ?_ ?_ ?_<;>simp [hk,Part.row,k80]
open Classical in
noncomputable def bT (o : List Part) : List Part:=if bJ o then normal o else []
theorem o5 (o : List Part) (hl : nL aF o<=2 ^ 40) : ai Tryz.prog 336 [.c (.s (o.map Part.row))] (.one (.c (.s ((bT o).map Part.row)) 3)):=by
 refine pci ae Tryz.func336 (λw0 base=>?_);simp;refine aa.pure (dZ o hl) (by simp) ?_;by_cases h : bJ o
 ·have e : bT o = normal o:=by unfold bT;rw [if_pos h]
  simp [h,e];refine aa.pure (r3 o h.1.1 (by have:=h.1.2;omega)) (by simp) ?_;simp
 ·have e : bT o = []:=by unfold bT;rw [if_neg h]
  have e2 : dc (bJ o) = false:=by rw [bY];exact h
  simp [e,e2]
theorem oH (o : List Part) (hl : nL aF o<=2 ^ 40) : ai Tryz.prog 388 [.c (.s (o.map Part.row))] (.one (.c (.s ((bT o).map Part.row)) 3)):=by
 refine pci ae Tryz.func388 (λw0 base=>?_);simp;refine aa.pure (dW o hl) (by simp) ?_;by_cases hopk : bJ o
 rotate_left
 ·have e : bT o = []:=by unfold bT;rw [if_neg hopk]
  have e2 : dc (bJ o) = false:=by rw [bY];exact hopk
  simp [e,e2]
 have e : bT o = normal o:=by unfold bT;rw [if_pos hopk]
 have ho:=hopk.1.1;have hlen:=hopk.1.2;simp [hopk,e];intro b
 refine ah eok (λx : Nat × Hd × Hd=>x.1<=o.length) (λx=>⟨38,0,[(13,.v (.int .i64 x.1)),(12,.v (.int .i64 o.length)),(11,.ro (o.map Part.row)),(3,.p 160 b 0)],
  [(160, .vars b 363 [.sl 5000 x.2.1 3 0 (a8 (o.take x.1)).1.length, .sl 5001 x.2.2 1 0 (a8 (o.take x.1)).2.1.length, .v (.int .i64 (a8 (o.take x.1)).2.2)]),
   (5000,.rows x.2.1 3 ((a8 (o.take x.1)).1.map Part.row) true),(5001,.rows x.2.2 1 ((a8 (o.take x.1)).2.1.map ao) true)]⟩) (λx=>o.length - x.1) (0,none,none) (by simp) (by simp [a8]) (λx hx=>Ent.refl ?_)
 obtain ⟨i,Hl,Hp⟩:=x;simp only at hx ⊢;have hok:=kA ho i hx;by_cases h : i < o.length
 ·have hs:=gg h
  have hpb:=(ho _ (List.getElem_mem h)).bounds;generalize a8 (o.take i) = s at hok hs;obtain ⟨L,P,D⟩:=s;obtain ⟨k1,k2,k3,k4,k5⟩:=hok;simp only at k1 k2 k3 k4 k5;have e : Go.IntKind.i64.wrap ((i : Int) + 1) = ((i + 1 : Nat) : Int):=ag (by omega);simp [h,Part.row];intro b5;by_cases c1 : o[i].kind = 1
  ·simp [c1]
   by_cases cn : 0 < o[i].n
   ·have hstep : dg (L,P,D) o[i] = (bP (aJ L P D) o[i].n,[],0):=by simp [dg,c1,cn]
    rw [hstep] at hs;have f2:=gh (P:=P) k3 k4 k5;refine tR (L:=L) (P:=P) (D:=D) (Hl:=Hl) (Hp:=Hp) (by omega) (by omega) cn hpb.2.2.1 (λq hq=>by have:=f2 q hq;omega) (by simp) (by simp) (by simp) (λHl' h' k160 k5000 k80=>?_);simp;refine Ent.kill 5001 (Ent.refl ⟨i + 1,by omega,by omega,Hl',none,?_⟩);rw [hs];simp [e,k160,k5000]
   ·have cn0 : o[i].n = 0:=by omega
    refine inl ae Tryz.func397 30000 (λw1 F=>?_);simp [cn0];refine Ent.refl ⟨i + 1,by omega,by omega,Hl,Hp,?_⟩;rw [hs];simp [dg,c1,cn0,e]
  ·by_cases c2 : o[i].kind = 2
   ·simp [c2]
    refine inl ae Tryz.func394 30000 (λw1 F=>?_);simp;refine ⟨by omega,λH=>?_⟩;refine Ent.refl ⟨i + 1,by omega,by omega,Hl,H,?_⟩;rw [hs];simp [dg,c2,e]
   ·have c3 : o[i].kind = 3:=by omega
    have e3 : Go.IntKind.i64.wrap (D + o[i].n) = D + o[i].n:=Go.IntWalk.i64_in _ (by omega);simp [c1,c2];refine inl ae Tryz.func393 30000 (λw1 F=>?_);simp [e3];refine Ent.refl ⟨i + 1,by omega,by omega,Hl,Hp,?_⟩;rw [hs];simp [dg,c3,e]
 ·have he : o.take i = o:=List.take_of_length_le (by omega)
  rw [he] at hok ⊢;have hn : normal o = aJ (a8 o).1 (a8 o).2.1 (a8 o).2.2:=rfl;rw [hn];generalize a8 o = s at hok;obtain ⟨L,P,D⟩:=s;obtain ⟨k1,k2,k3,k4,k5⟩:=hok;simp only at k1 k2 k3 k4 k5;simp [h];refine inl ae Tryz.func398 30000 (λw1 F=>?_);simp;refine l0 (L:=L) (P:=P) (D:=D) (Hl:=Hl) (Hp:=Hp) (by omega) (by omega) (by simp) (by simp) (by simp) (λHl' h' k160 k5000 k80=>?_);simp [k160,k5000]
theorem ku (a b : List Int) (hl : a.length<=2 ^ 40) : ai Tryz.prog 117 [.c (.s (a.map ao)),.c (.s (b.map ao))] (.one (.c (vb (a = b)) 1)):=by
 refine pci ae Tryz.func117 (λw0 base=>?_);by_cases h : a.length = b.length
 ·simp [h]
  refine aB.intro eok (λi : Nat=>i<=a.length/\a.take i = b.take i) (λi=>⟨26,0,[(13,.v (.int .i64 i)),(12,.v (.int .i64 b.length)),(1,.ro (b.map ao)),(0,.ro (a.map ao))],[]⟩) (λi=>a.length - i) 0 (by simp) (by simp) (λi hi=>?_);by_cases hlt : i < a.length
  ·have hlt' : i < b.length:=by omega
   simp [hlt'];refine au.quiet eok mix (by kernel_rfl) ?_;simp [hlt,hlt'];refine Br.mk (λh1=>?_) (λh1=>?_)
   ·simp
    exact ⟨i + 1,⟨by omega,gd hlt hlt' hi.2 (jY h1)⟩,by omega,ag (by omega)⟩
   ·simp [bY]
    exact nH hlt hlt' (nG h1)
  ·have hlt' : ¬ i < b.length:=by omega
   simp [hlt',gK];exact ij (by omega) (by omega) hi.2
 ·have hz : ¬ (a.length : Int) = b.length:=by omega
  simp [hz,bY];exact λh2=>absurd (by rw [h2]) h
theorem xI (a b : List Int) (hl : a.length<=2 ^ 40) : ai Tryz.prog 194 [.c (.s (a.map ao)),.c (.s (b.map ao))] (.one (.c (vb (a = b)) 1)):=by
 refine pci ae Tryz.func194 (λw0 base=>?_);by_cases h : a.length = b.length
 ·simp [h]
  refine aB.intro eok (λi : Nat=>i<=a.length/\a.take i = b.take i) (λi=>⟨26,0,[(13,.v (.int .i64 i)),(12,.v (.int .i64 b.length)),(1,.ro (b.map ao)),(0,.ro (a.map ao))],[]⟩) (λi=>a.length - i) 0 (by simp) (by simp) (λi hi=>?_);by_cases hlt : i < a.length
  ·have hlt' : i < b.length:=by omega
   simp [hlt'];refine au.quiet eok mix (by kernel_rfl) ?_;simp [hlt,hlt'];refine Br.mk (λh1=>?_) (λh1=>?_)
   ·simp
    exact ⟨i + 1,⟨by omega,gd hlt hlt' hi.2 (jY h1)⟩,by omega,ag (by omega)⟩
   ·simp [bY]
    exact nH hlt hlt' (nG h1)
  ·have hlt' : ¬ i < b.length:=by omega
   simp [hlt',gK];exact ij (by omega) (by omega) hi.2
 ·have hz : ¬ (a.length : Int) = b.length:=by omega
  simp [hz,bY];exact λh2=>absurd (by rw [h2]) h
theorem zO (p q : Part) (hl : p.signs.length<=2 ^ 40) : ai Tryz.prog 307 [.agg p.row,.agg q.row] (.one (.c (vb (p = q)) 1)):=by
 refine pci ae Tryz.func307 (λw0 base=>?_);obtain ⟨k1,n1,s1⟩:=p;obtain ⟨k2,n2,s2⟩:=q;simp [Part.row];intro b1 b2;by_cases h1 : k1 = k2
 ·by_cases h2 : n1 = n2
  ·simp [h1,h2]
   refine aa.pure (ku s1 s2 hl) (by simp) ?_;simp
  ·simp [h1,h2]
 ·simp [h1]
theorem y7 (a b : List Part) (hl : a.length<=2 ^ 40) (hs : ∀ p∈a,p.signs.length<=2 ^ 40) : ai Tryz.prog 306 [.c (.s (a.map Part.row)),.c (.s (b.map Part.row)),.c (.v (.func (.func 307) #[] #[]))] (.one (.c (vb (a = b)) 1)):=by
 refine pci ae Tryz.func306 (λw0 base=>?_);by_cases h : a.length = b.length
 ·simp [h]
  refine aB.intro eok (λi : Nat=>i<=a.length/\a.take i = b.take i) (λi=>⟨32,0,[(17,.v (.int .i64 i)),(16,.v (.int .i64 b.length)),(15,.ro (a.map Part.row)),(2,.v (.func (.func 307) #[] #[])),(1,.ro (b.map Part.row))],[]⟩) (λi=>a.length - i) 0 (by simp) (by simp) (λi hi=>?_);by_cases hlt : i < a.length
  ·have hlt' : i < b.length:=by omega
   simp [hlt,hlt',Part.row];intro b1 b2;refine aa.pure (zO a[i] b[i] (hs _ (List.getElem_mem hlt))) (by simp [Part.row]) ?_;simp;refine Br.mk (λh1=>?_) (λh1=>?_)
   ·simp
    exact ⟨i + 1,⟨by omega,gd hlt hlt' hi.2 (jY h1)⟩,by omega,ag (by omega)⟩
   ·simp [bY]
    exact nH hlt hlt' (nG h1)
  ·have hlt' : ¬ i < b.length:=by omega
   simp [hlt',gK];exact ij (by omega) (by omega) hi.2
 ·have hz : ¬ (a.length : Int) = b.length:=by omega
  simp [hz,bY];exact λh2=>absurd (by rw [h2]) h
theorem FG (a b : List Part) (hl : a.length<=2 ^ 40) (hs : ∀ p∈a,p.signs.length<=2 ^ 40) : ai Tryz.prog 225 [.c (.s (a.map Part.row)),.c (.s (b.map Part.row))] (.one (.c (vb (a = b)) 1)):=by
 refine pci ae Tryz.func225 (λw0 base=>?_);simp;refine aa.pure (y7 a b hl hs) (by simp) ?_;simp
theorem vL (a b : List Part) (hl : a.length<=2 ^ 40) (hs : ∀ p∈a,p.signs.length<=2 ^ 40) : ai Tryz.prog 285 [.c (.s (a.map Part.row)),.c (.s (b.map Part.row))] (.one (.c (vb (a = b)) 1)):=by
 refine pci ae Tryz.func285 (λw0 base=>?_);by_cases h : a.length = b.length
 ·simp [h]
  refine aB.intro eok (λi : Nat=>i<=a.length/\a.take i = b.take i) (λi=>⟨49,0,[(14,.v (.int .i64 i)),(13,.v (.int .i64 b.length)),(12,.ro (a.map Part.row)),(1,.ro (b.map Part.row))],[]⟩) (λi=>a.length - i) 0 (by simp) (by simp) (λi hi=>?_);by_cases hlt : i < a.length
  ·have hlt' : i < b.length:=by omega
   simp [hlt,hlt',Part.row];intro b1;refine au.quiet eok mix (by kernel_rfl) ?_;simp [hlt',Part.row];by_cases h1 : a[i].kind = b[i].kind
   ·by_cases h2 : a[i].n = b[i].n
    ·simp [h1,h2,hlt',Part.row]
     refine ⟨_,_,xI a[i].signs b[i].signs (hs _ (List.getElem_mem hlt)),by simp,?_⟩;simp;by_cases h3 : a[i].signs = b[i].signs
     ·simp [h3]
      have he : a[i] = b[i]:=by
       cases hx : a[i];cases hy : b[i]
       rw [hx,hy] at h1 h2 h3;simp at h1 h2 h3;rw [h1,h2,h3]
      exact ⟨i + 1,⟨by omega,gd hlt hlt' hi.2 he⟩,by omega,ag (by omega)⟩
     ·simp [h3,bY]
      exact nH hlt hlt' (λhe=>h3 (by rw [he]))
    ·simp [h1,h2,hlt',Part.row,bY]
     exact nH hlt hlt' (λhe=>h2 (by rw [he]))
   ·simp [h1,bY]
    exact nH hlt hlt' (λhe=>h1 (by rw [he]))
  ·have hlt' : ¬ i < b.length:=by omega
   simp [hlt',gK];exact ij (by omega) (by omega) hi.2
 ·have hz : ¬ (a.length : Int) = b.length:=by omega
  simp [hz,bY];exact λh2=>absurd (by rw [h2]) h
theorem lh (a b : List Part) (h : nL aF a<=2 ^ 40) : ai Tryz.prog 225 [.c (.s (a.map Part.row)),.c (.s (b.map Part.row))] (.one (.c (vb (a = b)) 1)):=FG a b (aK h) (λ_p hp=>cU h hp)
theorem tQ (a b : List Part) (h : nL aF a<=2 ^ 40) : ai Tryz.prog 285 [.c (.s (a.map Part.row)),.c (.s (b.map Part.row))] (.one (.c (vb (a = b)) 1)):=vL a b (aK h) (λ_p hp=>cU h hp)
theorem ge {α : Type} {f : α->Nat} : ∀ (a b : List α),bO f (a ++ b) = bO f a + bO f b
 | [],b=>by simp [bO]
 | x :: a,b=>by simp only [List.cons_append,bO,ge a b];omega
theorem xB {α : Type} {f : α->Nat} : ∀ (l : List α) (i : Nat) (h : i < l.length) (x : α),f x = f l[i]->bO f (l.set i x) = bO f l
 | a :: l,0,_,x,hx=>by simp at hx;simp [bO,hx]
 | a :: l, i + 1, h, x, hx => by
   simp only [List.set_cons_succ,bO];rw [xB l i (by simpa using h) x (by simpa using hx)]
theorem qu {L : List Part} {P : List Int} {D : Int} : bO aF (aJ L P D) = bO aF L + P.length:=by
 unfold aJ;rw [ge,ge];by_cases hp : P = []<;>by_cases hd : 0 < D<;>simp [hp,hd,bO,aF]
theorem Af {L : List Part} {n : Int} : bO aF (bP L n) = bO aF L:=by
 unfold bP
 split
 ·rename_i h
  split
  ·exact xB L _ (by omega) _ rfl
  ·rw [ge];simp [bO,aF]
 ·rename_i h
  have : L = []:=List.eq_nil_of_length_eq_zero (by omega);subst this;simp [bO,aF]
theorem uS {o : List Part} : ∀ (i : Nat),i<=o.length->bO aF (a8 (o.take i)).1 + (a8 (o.take i)).2.1.length<=bO aF (o.take i)
 | 0,_=>by simp [a8,bO]
 | i + 1, hi => by
   have ih:=uS (o:=o) i (by omega);have hlt : i < o.length:=by omega
   rw [gg hlt,<- List.take_append_getElem hlt,ge];generalize a8 (o.take i) = s at ih;generalize o[i] = p;obtain ⟨L,P,D⟩:=s;simp only at ih;have hp : bO aF [p] = p.signs.length:=by simp [bO,aF]
   rw [hp];unfold dg
   split
   ·simp;omega
   ·split
    ·simp;omega
    ·split
     ·simp only [Af,qu];simp;omega
     ·simp;omega
theorem Ac (o : List Part) : bO aF (normal o)<=bO aF o:=by
 have h:=uS (o:=o) o.length (by omega);rw [List.take_length] at h;unfold normal;rw [qu];exact h
theorem Ad {o : List Part} (ho : ∀ p∈o,am p) : (normal o).length<=3 * o.length + 2:=by
 have h:=(kA ho o.length (by omega)).l;rw [List.take_length] at h;have:=gi (a8 o).1 (a8 o).2.1 (a8 o).2.2;unfold normal;omega
theorem rC {o : List Part} (ho : ∀ p∈o,am p) : bO aF o<=200 * o.length:=by
 induction o with
 | nil=>simp [bO]
 | cons p o ih =>
   have h1:=(ho p (List.mem_cons_self ..)).bounds;have h2:=ih (λq hq=>ho q (List.mem_cons_of_mem _ hq));simp only [bO,aF,List.length_cons];omega
theorem yp {o : List Part} (ho : ∀ p∈o,am p) : nL aF o<=201 * o.length:=by
 have:=rC ho;unfold nL;omega
theorem kB {o : List Part} (ho : ∀ p∈o,am p) : nL aF (normal o)<=203 * o.length + 2:=by
 have h1:=Ac o;have h2:=Ad ho;have h3:=rC ho;unfold nL;omega
theorem oR (o : List Part) : nL aF (bT o)<=2 ^ 20:=by
 unfold bT
 split
 ·rename_i h
  have:=kB h.1.1;have:=h.1.2;omega
 ·simp [nL,bO]
def f0 (o : List Part) : Prop:=bJ o/\bT o = o
theorem wg (o : List Part) (hl : nL aF o<=2 ^ 40) : ai Tryz.prog 252 [.c (.s (o.map Part.row))] (.one (.c (vb (f0 o)) 1)):=by
 refine pci ae Tryz.func252 (λw0 base=>?_);simp;refine aa.pure (dZ o hl) (by simp) ?_;by_cases h : bJ o
 ·simp [h]
  refine aa.pure (o5 o hl) (by simp) ?_;simp;intro H;refine aa.pure (lh o (bT o) hl) (by simp) ?_;simp [f0,h];exact sY ⟨λh=>h.symm,λh=>h.symm⟩
 ·simp [h,f0]
theorem vN (o : List Part) (hl : nL aF o<=2 ^ 40) : ai Tryz.prog 353 [.c (.s (o.map Part.row))] (.one (.c (vb (f0 o)) 1)):=by
 refine pci ae Tryz.func353 (λw0 base=>?_);simp;refine aa.pure (dW o hl) (by simp) ?_;by_cases h : bJ o
 ·simp [h]
  refine aa.pure (oH o hl) (by simp) ?_;simp;intro H;refine aa.pure (tQ (bT o) o (Nat.le_trans (oR o) (by decide))) (by simp) ?_;simp [f0,h]
 ·simp [h,f0]
def cu (t : List Int) : Prop:=t.length<=200/\dO t
theorem gF (t : List Int) (hl : t.length<=2 ^ 40) : ai Tryz.prog 214 [.c (.s (t.map ao))] (.one (.c (vb (cu t)) 1)):=by
 refine pci ae Tryz.func214 (λw0 base=>?_);by_cases h : t.length<=200
 ·have h' : (t.length : Int)<=200:=by omega
  simp [h'];refine aa.pure (nJ t hl) (by simp) ?_;simp [cu,h]
 ·have h' : ¬ (t.length : Int)<=200:=by omega
  simp [h',cu,h]
theorem iN (t : List Int) (hl : t.length<=2 ^ 40) : ai Tryz.prog 209 [.c (.s (t.map ao))] (.one (.c (vb (cu t)) 1)):=by
 refine pci ae Tryz.func209 (λw0 base=>?_);simp;refine aa.pure (ny t hl) (by simp) ?_;have e : ((t.length : Int)<=200) = (t.length<=200):=by simp;omega
 by_cases hg : dO t
 ·simp [hg,cu,e]
 ·simp [hg,cu]
def psz (p : Part) : Nat:=p.n.toNat + p.signs.length
def eK (p : Part) (n : Nat) : Part:=if p.kind = 2 then ⟨p.kind,p.n,p.signs.take n⟩ else ⟨p.kind,n,p.signs⟩
def bf (p : Part) (n : Nat) : Part:=if p.kind = 2 then ⟨p.kind,p.n,p.signs.drop n⟩ else ⟨p.kind,p.n - n,p.signs⟩
theorem eS {p : Part} (h : am p) : (psz p : Int) = p.n + p.signs.length/\psz p<=200:=by
 have hb:=h.bounds;unfold psz;by_cases hk : p.kind = 2
 ·have:=hb.2.2.2.2.1 hk
  omega
 ·have:=hb.2.2.2.2.2 hk
  rw [this];simp;omega
@[simp] theorem NI {p : Part} {n : Nat} : (eK p n).kind = p.kind:=by unfold eK;split<;>rfl
@[simp] theorem LO {p : Part} {n : Nat} : (bf p n).kind = p.kind:=by unfold bf;split<;>rfl
theorem mR {p : Part} (h : am p) {n : Nat} (hn : n<=psz p) : am (eK p n):=by
 have hp:=eS h;unfold eK;by_cases hk : p.kind = 2
 ·rw [if_pos hk]
  rw [fY hk] at h;refine .inr ⟨hk,h.1,?_,λm hm=>h.2.2 m (List.mem_of_mem_take hm)⟩;simp;omega
 ·rw [if_neg hk]
  have hb:=h.bounds;have hk2 : p.kind = 1\/p.kind = 3:=by omega
  have:=hb.2.2.2.2.2 hk;refine .inl ⟨hk2,?_,this⟩;simp only;omega
theorem yc {p : Part} (h : am p) {n : Nat} (hn : n<=psz p) : am (bf p n):=by
 have hp:=eS h;unfold bf;by_cases hk : p.kind = 2
 ·rw [if_pos hk]
  rw [fY hk] at h;refine .inr ⟨hk,h.1,?_,λm hm=>h.2.2 m (List.mem_of_mem_drop hm)⟩;simp;omega
 ·rw [if_neg hk]
  have hb:=h.bounds;have hk2 : p.kind = 1\/p.kind = 3:=by omega
  have:=hb.2.2.2.2.2 hk;refine .inl ⟨hk2,?_,this⟩;rw [this] at hp;simp at hp;simp only;omega
theorem io {p : Part} (h : am p) {n : Nat} (hn : n<=psz p) : psz (bf p n) = psz p - n:=by
 have hb:=h.bounds;unfold psz bf at *;by_cases hk : p.kind = 2
 ·rw [if_pos hk]
  have:=hb.2.2.2.2.1 hk;simp only [this,List.length_drop] at hn ⊢;omega
 ·rw [if_neg hk]
  have:=hb.2.2.2.2.2 hk;simp only [this,List.length_nil] at hn ⊢;omega
theorem dx {p : Part} (h : am p) : eK p (psz p) = p:=by
 have hb:=h.bounds;unfold psz eK;by_cases hk : p.kind = 2
 ·rw [if_pos hk]
  have:=hb.2.2.2.2.1 hk;rw [List.take_of_length_le (by omega)]
 ·rw [if_neg hk]
  have:=hb.2.2.2.2.2 hk;obtain ⟨k,n,s⟩:=p;simp only at this hb;subst this;simp;omega
theorem yb {p : Part} {m n : Nat} : bf (bf p m) n = bf p (m + n):=by
 unfold bf;by_cases hk : p.kind = 2
 ·simp [hk,List.drop_drop]
 ·simp [hk]
  omega
theorem zV {p : Part} : bf p 0 = p:=by unfold bf;split<;>simp
def nxt : List Part->List Part
 | []=>[]
 | p :: l=>if psz p = 0 then nxt l else p :: l
def tsz : List Part->Nat
 | []=>0
 | p :: l=>psz p + tsz l
def frs : List Part->Nat
 | []=>0
 | p :: l=>(if p.kind = 2 then 0 else psz p) + frs l
def tos : List Part->Nat
 | []=>0
 | p :: l=>(if p.kind = 3 then 0 else psz p) + tos l
theorem vW : ∀ l : List Part,tsz (nxt l) = tsz l
 | []=>rfl
 | p :: l => by
   unfold nxt
   split
   ·rename_i h;rw [vW l];simp [tsz,h]
   ·rfl
theorem iR : ∀ l : List Part,frs (nxt l) = frs l
 | []=>rfl
 | p :: l => by
   unfold nxt
   split
   ·rename_i h;rw [iR l];simp [frs,h]
   ·rfl
theorem dR : ∀ {l : List Part} {p : Part} {l' : List Part},nxt l = p :: l'->0 < psz p
 | [],p,l',h=>by simp [nxt] at h
 | q :: l, p, l', h => by
   unfold nxt at h
   split at h
   ·exact dR h
   ·simp at h;rw [<- h.1];omega
theorem dS : ∀ l : List Part,nxt (nxt l) = nxt l
 | []=>rfl
 | p :: l => by
   by_cases h : psz p = 0
   ·simp only [nxt,h,if_true];exact dS l
   ·simp only [nxt,h,if_false]
theorem n8 : ∀ l : List Part,∃ k,k<=l.length/\nxt l = l.drop k/\∀ i,(h : i < l.length)->i < k->psz l[i] = 0
 | []=>⟨0,by simp,rfl,λi h=>by simp at h⟩
 | p :: l => by
   by_cases h : psz p = 0
   ·obtain ⟨k,h1,h2,h3⟩:=n8 l
    refine ⟨k + 1,by simp;omega,by simp [nxt,h,h2],λi hi hk=>?_⟩
    cases i with
    | zero=>simpa using h
    | succ i=>simpa using h3 i (by simpa using hi) (by omega)
   ·exact ⟨0,by simp,by simp [nxt,h],λi _ hk=>by omega⟩
theorem jI {l : List Part} {p : Part} (h : p∈nxt l) : p∈l:=by
 obtain ⟨k,_,h2,_⟩:=n8 l;rw [h2] at h;exact List.mem_of_mem_drop h
theorem BQ (l : List Part) : (nxt l).length<=l.length:=by
 obtain ⟨k,_,h2,_⟩:=n8 l;rw [h2];simp
theorem kC {l l' : List Part} {p : Part} {n : Nat} (hl : ∀ q∈l,am q) (he : nxt l = p :: l') (hn : n<=psz p) : ∀ q∈bf p n :: l',am q:=by
 intro q hq;rcases List.mem_cons.1 hq with rfl | hq
 ·exact yc (hl p (jI (he ▸ List.mem_cons_self ..))) hn
 ·exact hl q (jI (he ▸ List.mem_cons_of_mem _ hq))
theorem fR {l l' : List Part} {p : Part} (hl : ∀ q∈l,am q) (he : nxt l = p :: l') : am p/\∀ q∈p :: l',am q:=
 ⟨hl p (jI (he ▸ List.mem_cons_self ..)),λq hq=>hl q (jI (he ▸ hq))⟩
abbrev XR:=(List Part × List Part) × List Part × List Part
def cT (x y : List Part) : Option XR:=
 match nxt x with
 | p :: x' => if p.kind = 2 then some (([eK p (psz p)], [⟨1, p.signs.length, []⟩]), bf p (psz p) :: x', y) else match nxt y with
   | q :: y' => if q.kind = 2 then some (([⟨1, q.signs.length, []⟩], [eK q (psz q)]), p :: x', bf q (psz q) :: y') else
       some ((if q.kind = 1 then [eK p (min (psz p) (psz q))] else [],if p.kind = 1 then [eK q (min (psz p) (psz q))] else []),bf p (min (psz p) (psz q)) :: x',bf q (min (psz p) (psz q)) :: y')
   | []=>none
 | [] => match nxt y with
   | q :: y'=>if q.kind = 2 then some (([⟨1,q.signs.length,[]⟩],[eK q (psz q)]),[],bf q (psz q) :: y') else none
   | []=>none
structure TInv (x y : List Part) : Prop where
 px : ∀ p∈x,am p
 py : ∀ p∈y,am p
 b : frs x = frs y
structure TNext (x y : List Part) (r : XR) : Prop where
 inv : TInv r.2.1 r.2.2
 dec : tsz r.2.1 + tsz r.2.2 < tsz x + tsz y
 okx : ∀ p∈r.1.1,am p
 oky : ∀ p∈r.1.2,am p
 lenx : r.1.1.length<=1
 leny : r.1.2.length<=1
theorem Ay {p : Part} (h : am p) : am ⟨1,p.signs.length,[]⟩:=by
 have:=h.bounds;exact .inl ⟨.inl rfl,by simp only;omega,rfl⟩
theorem df {x y : List Part} (hi : TInv x y) {r : XR} (h : cT x y = some r) : TNext x y r:=by
 have hx:=vW x;have hy:=vW y;have hxt:=iR x;have hyf:=iR y;have hb:=hi.b;unfold cT at h
 cases ex : nxt x with
 | nil =>
   rw [ex] at h hx hxt
   cases ey : nxt y with
   | nil=>simp [ey] at h
   | cons q y' =>
     rw [ey] at hy hyf;have hq:=fR hi.py ey;have hp:=dR ey;simp only [ey] at h
     split at h
     ·rename_i k
      cases h
      have hs:=io hq.1 (Nat.le_refl _);refine ⟨⟨by simp,kC hi.py ey (Nat.le_refl _),?_⟩,?_,?_,?_,by simp,by simp⟩
      ·simp [frs,k] at hxt hyf ⊢;omega
      ·simp [tsz] at hx hy ⊢;omega
      ·intro p hp;simp at hp;subst hp;exact Ay hq.1
      ·intro p hp;simp at hp;subst hp;exact mR hq.1 (Nat.le_refl _)
     ·cases h
 | cons p x' =>
   rw [ex] at h hx hxt;have hp:=fR hi.px ex;have hpp:=dR ex;simp only at h
   split at h
   ·rename_i k
    cases h
    have hs:=io hp.1 (Nat.le_refl _);refine ⟨⟨kC hi.px ex (Nat.le_refl _),hi.py,?_⟩,?_,?_,?_,by simp,by simp⟩
    ·simp [frs,k] at hxt ⊢;omega
    ·simp [tsz] at hx ⊢;omega
    ·intro q hq;simp at hq;subst hq;exact mR hp.1 (Nat.le_refl _)
    ·intro q hq;simp at hq;subst hq;exact Ay hp.1
   ·rename_i k3
    cases ey : nxt y with
    | nil=>simp [ey] at h
    | cons q y' =>
      rw [ey] at hy hyf;have hq:=fR hi.py ey;have hqp:=dR ey;simp only [ey] at h
      split at h
      ·rename_i k
       cases h
       have hs:=io hq.1 (Nat.le_refl _);refine ⟨⟨hp.2,kC hi.py ey (Nat.le_refl _),?_⟩,?_,?_,?_,by simp,by simp⟩
       ·simp [frs,k,k3] at hxt hyf ⊢;omega
       ·simp [tsz] at hx hy ⊢;omega
       ·intro p hp;simp at hp;subst hp;exact Ay hq.1
       ·intro p hp;simp at hp;subst hp;exact mR hq.1 (Nat.le_refl _)
      ·rename_i k2
       cases h
       have hn1 : min (psz p) (psz q)<=psz p:=by omega
       have hn2 : min (psz p) (psz q)<=psz q:=by omega
       have hs1:=io hp.1 hn1;have hs2:=io hq.1 hn2;refine ⟨⟨kC hi.px ex hn1,kC hi.py ey hn2,?_⟩,?_,?_,?_,?_,?_⟩
       ·simp [frs,k2,k3] at hxt hyf ⊢;omega
       ·simp [tsz] at hx hy ⊢;omega
       ·intro r hr
        simp only at hr
        split at hr
        ·simp at hr;subst hr;exact mR hp.1 hn1
        ·simp at hr
       ·intro r hr
        simp only at hr
        split at hr
        ·simp at hr;subst hr;exact mR hq.1 hn2
        ·simp at hr
       ·simp only;split<;>simp
       ·simp only;split<;>simp
noncomputable def xfK : Nat->List Part->List Part->List Part × List Part
 | 0,_,_=>([],[])
 | k + 1, x, y => match cT x y with
   | none=>([],[])
   | some r=>(r.1.1 ++ (xfK k r.2.1 r.2.2).1,r.1.2 ++ (xfK k r.2.1 r.2.2).2)
noncomputable def xf (x y : List Part) : List Part × List Part:=xfK (tsz x + tsz y) x y
theorem Ee : ∀ (k m : Nat) {x y : List Part},TInv x y->tsz x + tsz y<=k->tsz x + tsz y<=m->xfK k x y = xfK m x y
 | 0,0,_,_,_,_,_=>rfl
 | k + 1, 0, x, y, hi, h, h2 => by
   rw [xfK,xfK]
   cases hs : cT x y with
   | none=>rfl
   | some r=>have:=(df hi hs).dec;omega
 | 0, m + 1, x, y, hi, h, h2 => by
   rw [xfK,xfK]
   cases hs : cT x y with
   | none=>rfl
   | some r=>have:=(df hi hs).dec;omega
 | k + 1, m + 1, x, y, hi, h, h2 => by
   rw [xfK,xfK]
   cases hs : cT x y with
   | none=>rfl
   | some r =>
     have hn:=df hi hs;have:=hn.dec;simp only;rw [Ee k m hn.inv (by omega) (by omega)]
theorem Bo {x y : List Part} (h : cT x y = none) : xf x y = ([],[]):=by
 unfold xf
 cases tsz x + tsz y with
 | zero=>rfl
 | succ k=>rw [xfK,h]
theorem Hy {x y : List Part} (hi : TInv x y) {r : XR} (h : cT x y = some r) : xf x y = (r.1.1 ++ (xf r.2.1 r.2.2).1,r.1.2 ++ (xf r.2.1 r.2.2).2):=by
 have hn:=df hi h;have hd:=hn.dec;unfold xf;obtain ⟨k,hk⟩ : ∃ k,tsz x + tsz y = k + 1:=⟨tsz x + tsz y - 1,by omega⟩;rw [hk,xfK,h];simp only;rw [Ee k (tsz r.2.1 + tsz r.2.2) hn.inv (by omega) (by omega)]
theorem wq : ∀ {o : List Part},(∀ p∈o,am p)->(frs o : Int) = co (lw 2) o
 | [],_=>rfl
 | p :: o, h => by
   have ih:=wq (λq hq=>h q (List.mem_cons_of_mem _ hq));have hp:=eS (h p (List.mem_cons_self ..));simp only [frs,co,lw]
   split<;>simp<;>omega
theorem vF : ∀ {o : List Part},(∀ p∈o,am p)->(tos o : Int) = co (lw 3) o
 | [],_=>rfl
 | p :: o, h => by
   have ih:=vF (λq hq=>h q (List.mem_cons_of_mem _ hq));have hp:=eS (h p (List.mem_cons_self ..));simp only [tos,co,lw]
   split<;>simp<;>omega
theorem kG {o : List Part} (h : bJ o) : (frs o : Int) = bp o:=by
 rw [wq h.1.1,fW (λp hp=>MN (h.1.1 p hp)),jc];unfold bp cw;rw [if_pos h.1]
theorem pC {o : List Part} (h : bJ o) : (tos o : Int) = jC o:=by
 rw [vF h.1.1,fW (λp hp=>MM (h.1.1 p hp)),jc];unfold jC cw;rw [if_pos h.1]
theorem zB : ∀ (o : List Part),tsz o<=frs o + tos o
 | []=>by simp [tsz]
 | p :: o => by
   have:=zB o;simp only [tsz,frs,tos]
   split<;>split<;>omega
theorem vE {o : List Part} (h : bJ o) : tsz o<=400:=by
 have h1:=zB o;have h2:=kG h;have h3:=pC h;have:=h.2;omega
theorem ra {a b : List Part} (ha : bJ a) (hb : bJ b) (h : bp a = bp b) : TInv a b:=by
 have h2:=kG hb;have h3:=kG ha;exact ⟨ha.1.1,hb.1.1,by omega⟩
open Classical in
noncomputable def aC (a b : List Part) : List Part × List Part × Bool:=
 if bJ a/\bJ b/\bp a = bp b then (if bJ (normal (xf a b).1)/\bJ (normal (xf a b).2) then (normal (xf a b).1,normal (xf a b).2,true) else ([],[],false)) else ([],[],false)
def cur (o : List Part) (i d : Nat) : List Part:=
 match o.drop i with
 | []=>[]
 | p :: l=>bf p d :: l
theorem wS {o : List Part} {i d : Nat} (h : o.length<=i) : cur o i d = []:=by unfold cur;rw [List.drop_eq_nil_of_le h]
theorem sZ {o : List Part} {i d : Nat} (h : i < o.length) : cur o i d = bf o[i] d :: o.drop (i + 1):=by unfold cur;rw [List.drop_eq_getElem_cons h]
theorem y9 {o : List Part} {i : Nat} : cur o i 0 = o.drop i:=by
 unfold cur
 cases o.drop i with
 | nil=>rfl
 | cons p l=>simp [zV]
theorem GM {o : List Part} (ho : ∀ p∈o,am p) {i : Nat} (h : i < o.length) : nxt (cur o i (psz o[i])) = nxt (cur o (i + 1) 0):=by
 rw [sZ h,y9];have:=io (ho _ (List.getElem_mem h)) (Nat.le_refl _);simp [nxt,this]
theorem GL {o : List Part} (ho : ∀ p∈o,am p) {i d : Nat} (h : i < o.length) (hd : d < psz o[i]) : nxt (cur o i d) = cur o i d:=by
 rw [sZ h];have:=io (ho _ (List.getElem_mem h)) (Nat.le_of_lt hd);have h2 : ¬ psz (bf o[i] d) = 0:=by omega
 simp [nxt,h2]
theorem GN {o : List Part} {i d n : Nat} (h : i < o.length) {p : Part} {l : List Part} (hc : cur o i d = p :: l) : bf p n :: l = cur o i (d + n):=by
 rw [sZ h] at hc ⊢
 cases hc
 rw [yb]
theorem cq {k j : Nat} {o : AObj} {h : AH} (hne : j≠k) : AH.get ((k,o) :: h) j = AH.get h j:=if_neg hne
end Go.Proofs.YtoldjebobgocpaaGreat
