import Derived.Test.YtoldjebobgocpaaGreatNA
import Derived.Test.YtoldjebobgocpaaGreatMF
namespace Go.Proofs.YtoldjebobgocpaaGreat
open Go.AM
set_option maxRecDepth 20000
theorem aK (n lo hi : Int) : ac Tryz.prog 112 [.c (vi n),.c (vi lo),.c (vi hi)] (.one (.c (vb (lo<=n/\n<=hi)) 1)):=by
 refine pci ag Tryz.func112 (λw0 base=>?_);by_cases h1 : lo<=n<;>by_cases h2 : n<=hi<;>simp [h1,h2]
theorem aW (n lo hi : Int) : ac Tryz.prog 67 [.c (vi n),.c (vi lo),.c (vi hi)] (.one (.c (vb (lo<=n/\n<=hi)) 1)):=by
 refine pci ag Tryz.func67 (λw0 base=>?_);by_cases h1 : lo<=n<;>by_cases h2 : n<=hi<;>simp [h1,h2]
def jo (n : Int) : Prop:=(0<=n/\n<=1114111)/\¬ (55296<=n/\n<=57343)
def ei (l : List Int) : Prop:=∀ n∈l,jo n
theorem up (n : Int) : ac Tryz.prog 360 [.c (vi n)] (.one (.c (vb (jo n)) 1)):=by
 refine pci ag Tryz.func360 (λw0 base=>?_);simp;refine aa.pure (aK n 0 1114111) (by simp) ?_;by_cases h : 0<=n/\n<=1114111
 ·simp [h]
  refine aa.pure (aK n 55296 57343) (by simp) ?_;by_cases h2 : 55296<=n/\n<=57343<;>simp [h2,jo,h]
  try (rw [dN];omega)
 ·have e : dc (0<=n/\n<=1114111) = false:=by rw [bb];exact h
  simp [jo,h]
theorem tP (n : Int) : ac Tryz.prog 359 [.c (vi n)] (.one (.c (vb (jo n)) 1)):=by
 refine pci ag Tryz.func359 (λw0 base=>?_);simp;refine aa.pure (aW n 0 1114111) (by simp) ?_;by_cases h : 0<=n/\n<=1114111
 ·simp [h]
  refine aa.pure (aW n 55296 57343) (by simp) ?_;by_cases h2 : 55296<=n/\n<=57343<;>simp [h2,jo,h]
  try (rw [dN];omega)
 ·have e : dc (0<=n/\n<=1114111) = false:=by rw [bb];exact h
  simp [jo,h]
theorem gh {α : Type} {P : α->Prop} {l : List α} {i : Nat} (h : i < l.length) (ha : ∀ a∈l.take i,P a) (hi : P l[i]) : ∀ a∈l.take (i + 1),P a:=by
 rw [<- List.take_append_getElem h];intro a ha';rcases List.mem_append.1 ha' with h1 | h1
 ·exact ha a h1
 ·simp at h1;subst h1;exact hi
theorem iC {α : Type} {P : α->Prop} {l : List α} {i : Nat} (h : l.length<=i) (ha : ∀ a∈l.take i,P a) : ∀ a∈l,P a:=by
 rwa [List.take_of_length_le h] at ha
theorem pG {α : Type} {P : α->Prop} {l : List α} {i : Nat} (h : i < l.length) (hi : ¬ P l[i]) : ¬ ∀ a∈l,P a:=λha=>hi (ha _ (List.getElem_mem h))
theorem lU (l : List Int) (hl : l.length<=2 ^ 40) : ac Tryz.prog 298 [.c (.s (l.map al))] (.one (.c (vb (ei l)) 1)):=by
 refine pci ag Tryz.func298 (λw0 base=>?_);simp;refine ak.intro eok (λi : Nat=>i<=l.length/\∀ n∈l.take i,jo n) (λi=>⟨15,0,[(7,.v (.int .i64 i)),(6,.v (.int .i64 l.length)),(5,.ro (l.map al))],[]⟩) (λi=>l.length - i) 0 (by simp) (by simp) (λi hi=>?_);by_cases h : i < l.length
 ·simp [h]
  refine aa.pure (up l[i]) (by simp) ?_;simp;refine Br.mk (λh1=>?_) (λh1=>?_)
  ·simp
   exact ⟨i + 1,⟨by omega,gh h hi.2 (ee h1)⟩,by omega,ah (by omega)⟩
  ·simp [bb]
   exact pG h (fR h1)
 ·simp [h,dN]
  exact iC (by omega) hi.2
theorem lO (l : List Int) (hl : l.length<=2 ^ 40) : ac Tryz.prog 295 [.c (.s (l.map al))] (.one (.c (vb (ei l)) 1)):=by
 refine pci ag Tryz.func295 (λw0 base=>?_);simp;refine ak.intro eok (λi : Nat=>i<=l.length/\∀ n∈l.take i,jo n) (λi=>⟨15,0,[(7,.v (.int .i64 i)),(6,.v (.int .i64 l.length)),(5,.ro (l.map al))],[]⟩) (λi=>l.length - i) 0 (by simp) (by simp) (λi hi=>?_);by_cases h : i < l.length
 ·simp [h]
  refine aa.pure (tP l[i]) (by simp) ?_;simp;refine Br.mk (λh1=>?_) (λh1=>?_)
  ·simp
   exact ⟨i + 1,⟨by omega,gh h hi.2 (ee h1)⟩,by omega,ah (by omega)⟩
  ·simp [bb]
   exact pG h (fR h1)
 ·simp [h,dN]
  exact iC (by omega) hi.2
def ao (p : Part) : Prop:=((p.kind = 1\/p.kind = 3)/\(0<=p.n/\p.n<=200)/\p.signs = [])\/(p.kind = 2/\p.n = 0/\p.signs.length<=200/\ei p.signs)
theorem oI {p : Part} (h : p.kind = 1\/p.kind = 3) : ao p = ((0<=p.n/\p.n<=200)/\p.signs = []):=by
 have h2 : ¬ p.kind = 2:=by omega
 simp [ao,h,h2]
theorem eX {p : Part} (h : p.kind = 2) : ao p = (p.n = 0/\p.signs.length<=200/\ei p.signs):=by simp [ao,h]
theorem sM {p : Part} (h1 : p.kind≠1) (h2 : p.kind≠2) (h3 : p.kind≠3) : ¬ ao p:=by simp [ao,h1,h2,h3]
theorem uu (p : Part) (hl : p.signs.length<=2 ^ 40) : ac Tryz.prog 297 [.agg p.row] (.one (.c (vb (ao p)) 1)):=by
 refine pci ag Tryz.func297 (λw0 base=>?_);simp [Part.row];intros;by_cases h13 : p.kind = 1\/p.kind = 3
 ·rw [oI h13]
  rcases h13 with h | h
  ·simp [h]
   refine aa.pure (aK p.n 0 200) (by simp) ?_;by_cases hn : 0<=p.n/\p.n<=200
   ·simp [hn]
   ·have e : dc (0<=p.n/\p.n<=200) = false:=by rw [bb];exact hn
    simp [hn]
  ·simp [h]
   refine aa.pure (aK p.n 0 200) (by simp) ?_;by_cases hn : 0<=p.n/\p.n<=200
   ·simp [hn]
   ·have e : dc (0<=p.n/\p.n<=200) = false:=by rw [bb];exact hn
    simp [hn]
 ·have h1 : ¬ p.kind = 1:=λh=>h13 (.inl h)
  have h3 : ¬ p.kind = 3:=λh=>h13 (.inr h)
  by_cases h2 : p.kind = 2
  ·rw [eX h2]
   simp [h2];by_cases hn : p.n = 0
   ·by_cases hs : p.signs.length<=200
    ·have hs' : (p.signs.length : Int)<=200:=by omega
     simp [hn,hs'];refine aa.pure (lU p.signs hl) (by simp) ?_;simp [hs]
    ·have hs' : ¬ (p.signs.length : Int)<=200:=by omega
     simp [hn,hs',hs]
   ·simp [hn]
  ·simp [h1,h2,h3,sM]
theorem tS (p : Part) (hl : p.signs.length<=2 ^ 40) : ac Tryz.prog 294 [.agg p.row] (.one (.c (vb (ao p)) 1)):=by
 refine pci ag Tryz.func294 (λw0 base=>?_);simp [Part.row];intros;by_cases h13 : p.kind = 1\/p.kind = 3
 ·rw [oI h13]
  rcases h13 with h | h
  ·simp [h]
   refine aa.pure (aW p.n 0 200) (by simp) ?_;by_cases hn : 0<=p.n/\p.n<=200
   ·simp [hn]
   ·have e : dc (0<=p.n/\p.n<=200) = false:=by rw [bb];exact hn
    simp [hn]
  ·simp [h]
   refine aa.pure (aW p.n 0 200) (by simp) ?_;by_cases hn : 0<=p.n/\p.n<=200
   ·simp [hn]
   ·have e : dc (0<=p.n/\p.n<=200) = false:=by rw [bb];exact hn
    simp [hn]
 ·have h1 : ¬ p.kind = 1:=λh=>h13 (.inl h)
  have h3 : ¬ p.kind = 3:=λh=>h13 (.inr h)
  by_cases h2 : p.kind = 2
  ·rw [eX h2]
   simp [h2];by_cases hn : p.n = 0
   ·simp [hn]
    refine aa.pure (lO p.signs hl) (by simp) ?_;have e : ((p.signs.length : Int)<=200) = (p.signs.length<=200):=by simp;omega
    by_cases hg : ei p.signs
    ·simp [hg,e]
    ·simp [hg]
   ·simp [hn]
  ·simp [h1,h2,h3,sM]
def cO (o : List Part) : Prop:=(∀ p∈o,ao p)/\o.length<=600
theorem iN (o : List Part) (hl : nL ar o<=2 ^ 40) : ac Tryz.prog 213 [.c (.s (o.map Part.row))] (.one (.c (vb (cO o)) 1)):=by
 refine pci ag Tryz.func213 (λw0 base=>?_);have hle:=aA hl;simp;refine ak.intro eok (λi : Nat=>i<=o.length/\∀ p∈o.take i,ao p) (λi=>⟨18,0,[(7,.v (.int .i64 i)),(6,.v (.int .i64 o.length)),(5,.ro (o.map Part.row)),(0,.ro (o.map Part.row))],[]⟩) (λi=>o.length - i) 0 (by simp) (by simp) (λi hi=>?_);by_cases h : i < o.length
 ·simp [h,Part.row]
  intros;refine aa.pure (uu o[i] (ci hl h)) (by simp [Part.row]) ?_;simp;refine Br.mk (λh1=>?_) (λh1=>?_)
  ·simp
   exact ⟨i + 1,⟨by omega,gh h hi.2 (ee h1)⟩,by omega,ah (by omega)⟩
  ·simp [bb]
   exact λhp=>pG h (fR h1) hp.1
 ·have ha:=iC (by omega) hi.2
  simp [h];refine qU ?_;unfold cO;exact ⟨λh=>by have:=h.2;omega,λh=>⟨ha,by omega⟩⟩
theorem iJ (o : List Part) (hl : nL ar o<=2 ^ 40) : ac Tryz.prog 208 [.c (.s (o.map Part.row))] (.one (.c (vb (cO o)) 1)):=by
 refine pci ag Tryz.func208 (λw0 base=>?_);have hle:=aA hl;simp;refine ak.intro eok (λi : Nat=>i<=o.length/\∀ p∈o.take i,ao p) (λi=>⟨18,0,[(7,.v (.int .i64 i)),(6,.v (.int .i64 o.length)),(5,.ro (o.map Part.row)),(0,.ro (o.map Part.row))],[]⟩) (λi=>o.length - i) 0 (by simp) (by simp) (λi hi=>?_);by_cases h : i < o.length
 ·simp [h,Part.row]
  intros;refine aa.pure (tS o[i] (ci hl h)) (by simp [Part.row]) ?_;simp;refine Br.mk (λh1=>?_) (λh1=>?_)
  ·simp
   exact ⟨i + 1,⟨by omega,gh h hi.2 (ee h1)⟩,by omega,ah (by omega)⟩
  ·simp [bb]
   exact λhp=>pG h (fR h1) hp.1
 ·have ha:=iC (by omega) hi.2
  simp [h];refine qU ?_;unfold cO;exact ⟨λh=>by have:=h.2;omega,λh=>⟨ha,by omega⟩⟩
def bY (f : Part->Int) : List Part->Int
 | []=>0
 | p :: o=>f p + bY f o
theorem oD {f : Part->Int} : ∀ (a b : List Part),bY f (a ++ b) = bY f a + bY f b
 | [],b=>by simp [bY]
 | p :: a,b=>by simp only [List.cons_append,bY,oD a b];omega
theorem eO {f : Part->Int} {o : List Part} {i : Nat} (h : i < o.length) : bY f (o.take (i + 1)) = bY f (o.take i) + f o[i]:=by
 rw [<- List.take_append_getElem h,oD];simp [bY]
theorem eV {f g : Part->Int} : ∀ {o : List Part},(∀ p∈o,f p = g p)->bY f o = bY g o
 | [],_=>rfl
 | p :: o, h => by
   simp only [bY];rw [h p (List.mem_cons_self ..),eV (λq hq=>h q (List.mem_cons_of_mem _ hq))]
theorem gW {f g : Part->Int} : ∀ (o : List Part),bY (λp=>f p + g p) o = bY f o + bY g o
 | []=>by simp [bY]
 | p :: o=>by simp only [bY,gW o];omega
def fK (p : Part) : Int:=if p.kind = 1 then p.n else 0
def fP (p : Part) : Int:=if p.kind = 2 then p.signs.length else 0
def fD (p : Part) : Int:=if p.kind = 1 then 0 else if p.kind = 2 then 0 else p.n
def jF (k : Int) (p : Part) : Int:=if p.kind = k then 0 else p.n + p.signs.length
theorem ao.bounds {p : Part} (h : ao p) : (p.kind = 1\/p.kind = 2\/p.kind = 3)/\0<=p.n/\p.n<=200/\p.signs.length<=200/\(p.kind = 2->p.n = 0)/\(p.kind≠2->p.signs = []):=by
 rcases h with ⟨h1,h2,h3⟩ | ⟨h1,h2,h3,h4⟩
 ·refine ⟨by omega,by omega,by omega,by simp [h3],by omega,λ_=>h3⟩
 ·refine ⟨by omega,by omega,by omega,h3,λ_=>h2,λh=>absurd h1 h⟩
theorem Li {p : Part} (h : ao p) : jF 2 p = fK p + fD p:=by
 obtain ⟨h1,h2,h3,h4,h5,h6⟩:=h.bounds;unfold jF fK fD;by_cases k2 : p.kind = 2
 ·simp [k2]
 ·by_cases k1 : p.kind = 1<;>simp [k1,k2,h6 k2]
theorem Lh {p : Part} (h : ao p) : jF 3 p = fK p + fP p:=by
 obtain ⟨h1,h2,h3,h4,h5,h6⟩:=h.bounds;unfold jF fK fP;rcases h1 with k | k | k
 ·simp [k,h6 (by omega)]
 ·simp [k,h5 k]
 ·simp [k]
theorem dE {f : Part->Int} {B : Int} (hf : ∀ p,ao p->0<=f p/\f p<=B) : ∀ {o : List Part},(∀ p∈o,ao p)->0<=bY f o/\bY f o<=B * o.length
 | [],_=>by simp [bY]
 | p :: o, h => by
   have h1:=hf p (h p (List.mem_cons_self ..));have h2:=dE hf (o:=o) (λq hq=>h q (List.mem_cons_of_mem _ hq));simp only [bY,List.length_cons];rw [show B * ((o.length + 1 : Nat) : Int) = B * o.length + B by rw [Int.natCast_add];simp [Int.mul_add]];omega
theorem EM {p : Part} (h : ao p) : 0<=fK p/\fK p<=200:=by have:=h.bounds;unfold fK;split<;>omega
theorem Of {p : Part} (h : ao p) : 0<=fP p/\fP p<=200:=by have:=h.bounds;unfold fP;split<;>omega
theorem EP {p : Part} (h : ao p) : 0<=fD p/\fD p<=200:=by have:=h.bounds;unfold fD;split<;>(try split)<;>omega
theorem La {k : Int} {p : Part} (h : ao p) : 0<=jF k p/\jF k p<=400:=by have:=h.bounds;unfold jF;split<;>omega
theorem lc {o : List Part} (h : ∀ p∈o,ao p) (i : Nat) : ∀ p∈o.take i,ao p:=λp hp=>h p (List.mem_of_mem_take hp)
theorem J5 (p : Part) (hp : ao p) : ac Tryz.prog 328 [.agg p.row] (.one (.c (vi (p.n + p.signs.length)) 1)):=by
 refine pci ag Tryz.func328 (λw0 base=>?_);have:=hp.bounds;have e : Go.IntKind.i64.wrap (p.n + (p.signs.length : Int)) = p.n + p.signs.length:=Go.IntWalk.i64_in _ (by omega);simp [Part.row,e]
open Classical in
noncomputable def sizeOf (o : List Part) (k : Int) : Int:=if cO o then bY (jF k) o else 0
theorem mX (o : List Part) (hl : nL ar o<=2 ^ 40) (k : Int) : ac Tryz.prog 331 [.c (.s (o.map Part.row)),.c (vi k)] (.one (.c (vi (sizeOf o k)) 1)):=by
 refine pci ag Tryz.func331 (λw0 base=>?_);have hle:=aA hl;simp;refine aa.pure (iN o hl) (by simp) ?_;by_cases ho : cO o
 ·have hr : sizeOf o k = bY (jF k) o:=by unfold sizeOf;rw [if_pos ho]
  simp [ho,hr];refine ak.intro eok (λi : Nat=>i<=o.length) (λi=>⟨27,0,[(13,.v (.int .i64 i)),(12,.v (.int .i64 o.length)),(11,.ro (o.map Part.row)),(5,.v (.int .i64 (bY (jF k) (o.take i)))),(1,.v (.int .i64 k))],[]⟩) (λi=>o.length - i) 0 (by simp) (by simp [bY]) (λi hi=>?_);by_cases h : i < o.length
  ·have hp:=ho.1 _ (List.getElem_mem h)
   have hb:=dE (f:=jF k) (λp h=>La h) (lc ho.1 i);have hb2:=hp.bounds;have hlen:=ho.2;have hlt : (o.take i).length<=600:=by simp;omega
   have hs:=eO (f:=jF k) h;obtain ⟨q,hq⟩ : ∃ q,bY (jF k) (o.take i) = q:=⟨_,rfl⟩;have e : Go.IntKind.i64.wrap ((i : Int) + 1) = ((i + 1 : Nat) : Int):=ah (by omega);rw [hq] at hs hb;simp [h,Part.row,hq];intros;by_cases hk : o[i].kind = k
   ·simp [hk]
    refine ⟨i + 1,by omega,by omega,e,?_⟩;rw [hs];simp [jF,hk]
   ·simp [hk]
    refine aa.pure (J5 o[i] hp) (by simp [Part.row]) ?_;have e2 : Go.IntKind.i64.wrap (q + (o[i].n + (o[i].signs.length : Int))) = q + (o[i].n + o[i].signs.length):=Go.IntWalk.i64_in _ (by omega);simp [e2];refine ⟨i + 1,by omega,by omega,e,?_⟩;rw [hs];simp [jF,hk]
  ·simp [h]
   rw [List.take_of_length_le (by omega)]
 ·have e : dc (cO o) = false:=by rw [bb];exact ho
  have hr : sizeOf o k = 0:=by unfold sizeOf;rw [if_neg ho]
  simp [e,hr]
open Classical in
noncomputable def ch (o : List Part) : Int × Int × Int:=if cO o then (bY fK o,bY fP o,bY fD o) else (0,0,0)
theorem v5 (o : List Part) (hl : nL ar o<=2 ^ 40) : ac Tryz.prog 325 [.c (.s (o.map Part.row))] (.tup [.c (vi (ch o).1) 1,.c (vi (ch o).2.1) 1,.c (vi (ch o).2.2) 1]):=by
 refine pci ag Tryz.func325 (λw0 base=>?_);have hle:=aA hl;simp;refine aa.pure (iJ o hl) (by simp) ?_;by_cases ho : cO o
 ·have hr : ch o = (bY fK o,bY fP o,bY fD o):=by unfold ch;rw [if_pos ho]
  simp [ho,hr];refine ak.intro eok (λi : Nat=>i<=o.length) (λi=>⟨42,0,[(15,.v (.int .i64 i)),(14,.v (.int .i64 o.length)),(13,.ro (o.map Part.row)),(5,.v (.int .i64 (bY fK (o.take i)))),(6,.v (.int .i64 (bY fP (o.take i)))),(7,.v (.int .i64 (bY fD (o.take i))))],[]⟩) (λi=>o.length - i) 0 (by simp) (by simp [bY]) (λi hi=>?_);by_cases h : i < o.length
  ·have hp:=ho.1 _ (List.getElem_mem h)
   have hb1:=dE (f:=fK) (λp h=>EM h) (lc ho.1 i);have hb2:=dE (f:=fP) (λp h=>Of h) (lc ho.1 i);have hb3:=dE (f:=fD) (λp h=>EP h) (lc ho.1 i);have hpb:=hp.bounds;have hlen:=ho.2;have hlt : (o.take i).length<=600:=by simp;omega
   have hs1:=eO (f:=fK) h;have hs2:=eO (f:=fP) h;have hs3:=eO (f:=fD) h;obtain ⟨q1,hq1⟩ : ∃ q,bY fK (o.take i) = q:=⟨_,rfl⟩;obtain ⟨q2,hq2⟩ : ∃ q,bY fP (o.take i) = q:=⟨_,rfl⟩;obtain ⟨q3,hq3⟩ : ∃ q,bY fD (o.take i) = q:=⟨_,rfl⟩;have e : Go.IntKind.i64.wrap ((i : Int) + 1) = ((i + 1 : Nat) : Int):=ah (by omega);rw [hq1] at hs1 hb1;rw [hq2] at hs2 hb2;rw [hq3] at hs3 hb3;simp [h,Part.row,hq1,hq2,hq3];intros;have e1 : Go.IntKind.i64.wrap (q1 + o[i].n) = q1 + o[i].n:=Go.IntWalk.i64_in _ (by omega);have e2 : Go.IntKind.i64.wrap (q2 + (o[i].signs.length : Int)) = q2 + o[i].signs.length:=Go.IntWalk.i64_in _ (by omega);have e3 : Go.IntKind.i64.wrap (q3 + o[i].n) = q3 + o[i].n:=Go.IntWalk.i64_in _ (by omega);by_cases k1 : o[i].kind = 1
   ·simp [k1,e1]
    refine ⟨i + 1,by omega,by omega,e,?_,?_,?_⟩
    ·rw [hs1];simp [fK,k1]
    ·rw [hs2];simp [fP,k1]
    ·rw [hs3];simp [fD,k1]
   ·by_cases k2 : o[i].kind = 2
    ·simp [k2,e2]
     refine ⟨i + 1,by omega,by omega,e,?_,?_,?_⟩
     ·rw [hs1];simp [fK,k2]
     ·rw [hs2];simp [fP,k2]
     ·rw [hs3];simp [fD,k2]
    ·simp [k1,k2,e3]
     refine ⟨i + 1,by omega,by omega,e,?_,?_,?_⟩
     ·rw [hs1];simp [fK,k1]
     ·rw [hs2];simp [fP,k2]
     ·rw [hs3];simp [fD,k1,k2]
  ·simp [h]
   rw [List.take_of_length_le (by omega)];simp
 ·have e : dc (cO o) = false:=by rw [bb];exact ho
  have hr : ch o = (0,0,0):=by unfold ch;rw [if_neg ho]
  simp [e,hr]
noncomputable def bk (o : List Part) : Int:=(ch o).1 + (ch o).2.2
noncomputable def iL (o : List Part) : Int:=(ch o).1 + (ch o).2.1
theorem vR (o : List Part) : sizeOf o 2 = bk o:=by
 unfold sizeOf bk ch
 split
 ·rename_i h
  show _ = bY fK o + bY fD o
  rw [<- gW];exact eV (λp hp=>Li (h.1 p hp))
 ·rfl
theorem Ai (o : List Part) : sizeOf o 3 = iL o:=by
 unfold sizeOf iL ch
 split
 ·rename_i h
  show _ = bY fK o + bY fP o
  rw [<- gW];exact eV (λp hp=>Lh (h.1 p hp))
 ·rfl
theorem v6 (o : List Part) : (0<=(ch o).1/\(ch o).1<=120000)/\(0<=(ch o).2.1/\(ch o).2.1<=120000)/\0<=(ch o).2.2/\(ch o).2.2<=120000:=by
 unfold ch
 split
 ·rename_i h
  have h1:=dE (f:=fK) (λp h=>EM h) h.1;have h2:=dE (f:=fP) (λp h=>Of h) h.1;have h3:=dE (f:=fD) (λp h=>EP h) h.1;have h4:=h.2;simp only;omega
 ·simp
theorem fN (o : List Part) (hl : nL ar o<=2 ^ 40) : ac Tryz.prog 253 [.c (.s (o.map Part.row))] (.one (.c (vi (bk o)) 1)):=by
 refine pci ag Tryz.func253 (λw0 base=>?_);simp;refine aa.pure (mX o hl 2) (by simp) ?_;simp [vR]
theorem ym (o : List Part) (hl : nL ar o<=2 ^ 40) : ac Tryz.prog 245 [.c (.s (o.map Part.row))] (.one (.c (vi (iL o)) 1)):=by
 refine pci ag Tryz.func245 (λw0 base=>?_);simp;refine aa.pure (mX o hl 3) (by simp) ?_;simp [Ai]
theorem fC (o : List Part) (hl : nL ar o<=2 ^ 40) : ac Tryz.prog 387 [.c (.s (o.map Part.row))] (.one (.c (vi (bk o)) 1)):=by
 refine pci ag Tryz.func387 (λw0 base=>?_);simp;refine aa.pure (v5 o hl) (by simp) ?_;have:=v6 o;have e : Go.IntKind.i64.wrap ((ch o).1 + (ch o).2.2) = bk o:=Go.IntWalk.i64_in _ (by omega);simp [e]
theorem xv (o : List Part) (hl : nL ar o<=2 ^ 40) : ac Tryz.prog 240 [.c (.s (o.map Part.row))] (.one (.c (vi (iL o)) 1)):=by
 refine pci ag Tryz.func240 (λw0 base=>?_);simp;refine aa.pure (v5 o hl) (by simp) ?_;have:=v6 o;have e : Go.IntKind.i64.wrap ((ch o).1 + (ch o).2.1) = iL o:=Go.IntWalk.i64_in _ (by omega);simp [e]
def bB (o : List Part) : Prop:=cO o/\bk o<=200/\iL o<=200
theorem dH (o : List Part) (hl : nL ar o<=2 ^ 40) : ac Tryz.prog 255 [.c (.s (o.map Part.row))] (.one (.c (vb (bB o)) 1)):=by
 refine pci ag Tryz.func255 (λw0 base=>?_);simp;refine aa.pure (iN o hl) (by simp) ?_;by_cases h : cO o
 ·simp [h]
  refine aa.pure (fN o hl) (by simp) ?_;by_cases h1 : bk o<=200
  ·simp [h1]
   refine aa.pure (ym o hl) (by simp) ?_;simp [bB,h,h1]
  ·simp [h1,bB,h]
 ·simp [h,bB]
theorem dF (o : List Part) (hl : nL ar o<=2 ^ 40) : ac Tryz.prog 382 [.c (.s (o.map Part.row))] (.one (.c (vb (bB o)) 1)):=by
 refine pci ag Tryz.func382 (λw0 base=>?_);simp;refine aa.pure (iJ o hl) (by simp) ?_;by_cases h : cO o
 ·simp [h]
  refine aa.pure (fC o hl) (by simp) ?_;by_cases h1 : bk o<=200
  ·simp [h1]
   refine aa.pure (xv o hl) (by simp) ?_;simp [bB,h,h1]
  ·simp [h1,bB,h]
 ·simp [h,bB]
def aF (L : List Part) (P : List Int) (D : Int) : List Part:=L ++ ((if P = [] then [] else [⟨2,0,P⟩]) ++ (if 0 < D then [⟨3,D,[]⟩] else []))
def bD (L : List Part) (n : Int) : List Part:=
 if h : 0 < L.length then
  if (L[L.length - 1]'(by omega)).kind = 1 then L.set (L.length - 1) ⟨1,(L[L.length - 1]'(by omega)).n + n,(L[L.length - 1]'(by omega)).signs⟩ else L ++ [⟨1,n,[]⟩]
 else [⟨1,n,[]⟩]
def cR (s : List Part × List Int × Int) (p : Part) : List Part × List Int × Int:=
 if p.kind = 2 then (s.1,s.2.1 ++ p.signs,s.2.2)
 else if p.kind = 3 then (s.1,s.2.1,s.2.2 + p.n)
 else if 0 < p.n then (bD (aF s.1 s.2.1 s.2.2) p.n,[],0) else s
def aV (o : List Part) : List Part × List Int × Int:=o.foldl cR ([],[],0)
def normal (o : List Part) : List Part:=aF (aV o).1 (aV o).2.1 (aV o).2.2
theorem fg {o : List Part} {i : Nat} (h : i < o.length) : aV (o.take (i + 1)) = cR (aV (o.take i)) o[i]:=by
 unfold aV;rw [<- List.take_append_getElem h,List.foldl_append];rfl
structure NbOk (m : Nat) (s : List Part × List Int × Int) : Prop where
 l : s.1.length<=3 * m
 p : s.2.1.length<=200 * m
 d0 : 0<=s.2.2
 d : s.2.2<=200 * m
 q : ∀ q∈s.1,0<=q.n/\q.n<=200 * m
theorem fi (L : List Part) (P : List Int) (D : Int) : (aF L P D).length<=L.length + 2:=by
 unfold aF
 split<;>split<;>simp
theorem fh {L : List Part} {P : List Int} {D B : Int} (h0 : 0<=D) (hD : D<=B) (hL : ∀ q∈L,0<=q.n/\q.n<=B) : ∀ q∈aF L P D,0<=q.n/\q.n<=B:=by
 intro q hq;unfold aF at hq;simp only [List.mem_append] at hq;rcases hq with hq | hq | hq
 ·exact hL q hq
 ·split at hq
  ·simp at hq
  ·simp at hq;subst hq;simp;omega
 ·split at hq
  ·simp at hq;subst hq;simp;omega
  ·simp at hq
theorem i8 {o : List Part} (ho : ∀ p∈o,ao p) : ∀ (i : Nat),i<=o.length->NbOk i (aV (o.take i))
 | 0, _ => by
   simp [aV];exact ⟨by simp,by simp,by simp,by simp,by simp⟩
 | i + 1, hi => by
   have ih:=i8 ho i (by omega);have hlt : i < o.length:=by omega
   rw [fg hlt];have hp:=(ho _ (List.getElem_mem hlt)).bounds;generalize aV (o.take i) = s at ih;generalize o[i] = p at hp;obtain ⟨L,P,D⟩:=s;obtain ⟨h1,h2,h3,h4,h5⟩:=ih;simp only at h1 h2 h3 h4 h5;have w : ∀ q∈L,0<=q.n/\q.n<=200 * ((i + 1 : Nat) : Int):=λq hq=>by have:=h5 q hq;omega
   unfold cR
   split
   ·exact ⟨by simp;omega,by simp;omega,h3,by simp;omega,w⟩
   ·split
    ·exact ⟨by simp;omega,by simp;omega,by simp;omega,by simp;omega,w⟩
    ·split
     ·have f1:=fi L P D
      have f2:=fh (P:=P) h3 h4 h5;refine ⟨?_,by simp,by simp,by simp;omega,?_⟩
      ·simp only [bD]
       split
       ·split<;>simp<;>omega
       ·simp;omega
      ·simp only [bD]
       intro q hq
       split at hq
       ·split at hq
        ·rcases List.mem_or_eq_of_mem_set hq with hq | rfl
         ·have:=f2 q hq;omega
         ·have:=f2 _ (List.getElem_mem (show (aF L P D).length - 1 < (aF L P D).length by omega))
          simp only;omega
        ·rcases List.mem_append.1 hq with hq | hq
         ·have:=f2 q hq;omega
         ·simp at hq;subst hq;simp;omega
       ·simp at hq;subst hq;simp;omega
     ·exact ⟨by simp;omega,by simp;omega,h3,by simp;omega,w⟩
theorem nZ {L : List Part} {P : List Int} {D : Int} (hP : ¬ P = []) (hD : 0 < D) : aF L P D = L ++ [⟨2,0,P⟩] ++ [⟨3,D,[]⟩]:=by simp [aF,hP,hD]
theorem nY {L : List Part} {P : List Int} {D : Int} (hP : ¬ P = []) (hD : ¬ 0 < D) : aF L P D = L ++ [⟨2,0,P⟩]:=by simp [aF,hP,hD]
theorem nX {L : List Part} {P : List Int} {D : Int} (hP : P = []) (hD : 0 < D) : aF L P D = L ++ [⟨3,D,[]⟩]:=by simp [aF,hP,hD]
theorem nW {L : List Part} {P : List Int} {D : Int} (hP : P = []) (hD : ¬ 0 < D) : aF L P D = L:=by simp [aF,hP,hD]
theorem kz {w0 : World} {bF bG : Nat->Prop} {bl : Bool} {st : ASt} {dst : Option Nat} {K : ASt->Prop} {L : List Part} {P : List Int} {D : Int} {b3 b4 b5 : Nat} {Hl Hp : Hd} (hL : L.length<=2 ^ 20) (_hP : P.length<=2 ^ 40)
 (g48 : st.h.get 48 = .vars b3 63 [.sl 5000 Hl 3 0 L.length]) (g64 : st.h.get 64 = .vars b4 26 [.sl 5001 Hp 1 0 P.length]) (g80 : st.h.get 80 = .vars b5 3 [.v (.int .i64 D)])
 (g5000 : st.h.get 5000 = .rows Hl 3 (L.map Part.row) true) (g5001 : st.h.get 5001 = .rows Hp 1 (P.map al) true)
 (hK : ∀ Hl' h',AH.get h' 48 = .vars b3 63 [.sl 5000 Hl' 3 0 (aF L P D).length] -> AH.get h' 5000 = .rows Hl' 3 ((aF L P D).map Part.row) true -> AH.get h' 64 = .vars b4 26 [.nil] -> AH.get h' 80 = .vars b5 3 [.v (.int .i64 0)] ->
  AH.get h' 128 = st.h.get 128->aT ⟨st.n,st.kb,st.t,h'⟩ dst (.tup []) K) : aa ⟨Tryz.prog,tt,w0,⟨bF,bG,bl,λ_=>True⟩⟩ 374 [.p 64 b4 0,.p 48 b3 0,.p 80 b5 0] st dst K:=by
 refine inl ag Tryz.func374 20000 (λw1 F=>?_);simp [g64];by_cases hp : P = []
 ·have hp0 : ¬ 0 < P.length:=by simp [hp]
  simp [hp0,g80];by_cases hd : 0 < D
  ·simp [hd,g48,g5000,g80,g64]
   intro b;refine ⟨by omega,λH=>hK H _ ?_ ?_ ?_ ?_ ?_⟩<;>simp [nX hp hd,Part.row]
  ·simp [hd,g80,g64]
   refine hK Hl _ ?_ ?_ ?_ ?_ ?_<;>simp [nW hp hd,g48,g5000]
 ·have hp0 : 0 < P.length:=List.length_pos_iff.2 hp
  simp [hp0,g80,g48,g5000,g5001,g64];intro b;refine ⟨by omega,λH=>?_⟩;by_cases hd : 0 < D
  ·simp [hd,g80,g64]
   intro b2;refine ⟨by omega,λH2=>hK H2 _ ?_ ?_ ?_ ?_ ?_⟩<;>simp [nZ hp hd,Part.row]
  ·simp [hd,g80,g64]
   refine hK H _ ?_ ?_ ?_ ?_ ?_<;>simp [nY hp hd,Part.row]
theorem jt {F : List Part} {m : Nat} (h : m < F.length) {g : List CD->List CD} {p : Part} (hg : g F[m].row = p.row) : (F.map Part.row).modify m g = (F.set m p).map Part.row:=by
 apply List.ext_getElem?
 intro j;rw [List.getElem?_modify];simp only [List.getElem?_map,List.getElem?_set];by_cases hj : m = j
 ·subst hj
  simp [h,hg]
 ·simp [hj]
theorem qg (o : List Part) (ho : ∀ p∈o,ao p) (hl : o.length<=10000) : ac Tryz.prog 330 [.c (.s (o.map Part.row))] (.one (.c (.s ((normal o).map Part.row)) 3)):=by
 refine pci ag Tryz.func330 (λw0 base=>?_);simp;intro b3 b4 b5
 refine aj eok (λx : Nat × Hd × Hd=>x.1<=o.length) (λx=>⟨73,0,[(13,.v (.int .i64 x.1)),(12,.v (.int .i64 o.length)),(11,.ro (o.map Part.row)),(3,.p 48 b3 0),(4,.p 64 b4 0),(5,.p 80 b5 0),(6,.clo 374 [.p 64 b4 0,.p 48 b3 0,.p 80 b5 0])],
  [(48, .vars b3 63 [.sl 5000 x.2.1 3 0 (aV (o.take x.1)).1.length]), (64, .vars b4 26 [.sl 5001 x.2.2 1 0 (aV (o.take x.1)).2.1.length]), (80, .vars b5 3 [.v (.int .i64 (aV (o.take x.1)).2.2)]),
   (5000,.rows x.2.1 3 ((aV (o.take x.1)).1.map Part.row) true),(5001,.rows x.2.2 1 ((aV (o.take x.1)).2.1.map al) true)]⟩) (λx=>o.length - x.1) (0,none,none) (by simp) (by simp [aV]) (λx hx=>Ent.refl ?_)
 obtain ⟨i,Hl,Hp⟩:=x;simp only at hx ⊢;have hok:=i8 ho i hx;by_cases h : i < o.length
 ·have hs:=fg h
  have hpb:=(ho _ (List.getElem_mem h)).bounds;generalize aV (o.take i) = s at hok hs;obtain ⟨L,P,D⟩:=s;obtain ⟨k1,k2,k3,k4,k5⟩:=hok;simp only at k1 k2 k3 k4 k5;have e : Go.IntKind.i64.wrap ((i : Int) + 1) = ((i + 1 : Nat) : Int):=ah (by omega);simp [h,Part.row];intro b8;by_cases c2 : o[i].kind = 2
  ·simp [c2]
   refine ⟨by omega,λH=>?_⟩;refine Ent.refl ⟨i + 1,by omega,by omega,Hl,H,?_⟩;rw [hs];simp [cR,c2,e]
  ·by_cases c3 : o[i].kind = 3
   ·have e3 : Go.IntKind.i64.wrap (D + o[i].n) = D + o[i].n:=Go.IntWalk.i64_in _ (by omega)
    simp [c3,e3];refine Ent.refl ⟨i + 1,by omega,by omega,Hl,Hp,?_⟩;rw [hs];simp [cR,c3,e]
   ·by_cases cn : 0 < o[i].n
    ·simp [c2,c3,cn]
     refine kz (L:=L) (P:=P) (D:=D) (Hl:=Hl) (Hp:=Hp) (by omega) (by omega) (by simp) (by simp) (by simp) (by simp) (by simp) (λHl' h' g48 g5000 g64 g80 g128=>?_);have f1:=fi L P D;have f2:=fh (P:=P) k3 k4 k5;have hstep : cR (L,P,D) o[i] = (bD (aF L P D) o[i].n,[],0):=by simp [cR,c2,c3,cn]
     rw [hstep] at hs;generalize aF L P D = F at f1 f2 g48 g5000 hs;simp at g128;by_cases hF : 0 < F.length
     ·obtain ⟨m,hm⟩ : ∃ m,F.length = m + 1:=⟨F.length - 1,by omega⟩
      have hmlt : m < F.length:=by omega
      have em : Go.IntKind.i64.wrap (m : Int) = m:=co (by omega)
      have hk : bD F o[i].n = if F[m].kind = 1 then F.set m ⟨1,F[m].n + o[i].n,F[m].signs⟩ else F ++ [⟨1,o[i].n,[]⟩]:=by
       have e0 : F.length - 1 = m:=by omega
       simp [bD,hF,e0]
      have hq:=f2 _ (List.getElem_mem hmlt);simp [g48,g5000,hm,em,Part.row];by_cases ck : F[m].kind = 1
      ·rw [if_pos ck] at hk
       have em2 : Go.IntKind.i64.wrap (F[m].n + o[i].n) = F[m].n + o[i].n:=Go.IntWalk.i64_in _ (by omega);have hmm : (m : Int) < m + 1:=by omega
       simp [ck,hmm];refine drw eok mix [0,1,2,3,4,5,6,7,8,9,10] [11] (.c 11 11 2045 2 (.l 11 2) .s) ?_;simp [g48,g5000,g128,hm,em,Part.row,ck,em2,hmm];refine Ent.kill 5001 (Ent.refl ⟨i + 1,by omega,by omega,Hl',none,?_⟩);rw [hs,hk];have hmod:=jt (F:=F) (m:=m) hmlt (g:=λrow=>eb row 1 [CD.v (Value.int IntKind.i64 (F[m].n + o[i].n))]) (p:=⟨1,F[m].n + o[i].n,F[m].signs⟩) (by simp [Part.row,ck]);simp [e,g48,g64,g80,hm,hmod]
      ·rw [if_neg ck] at hk
       simp [ck,g48,g5000,g128,hm];refine ⟨by omega,λb=>⟨by omega,λH=>?_⟩⟩;refine Ent.kill 5001 (Ent.refl ⟨i + 1,by omega,by omega,H,none,?_⟩);rw [hs,hk];simp [e,Part.row,g64,g80,hm]
     ·have hF0 : F = []:=List.eq_nil_of_length_eq_zero (by omega)
      subst hF0;have hk : bD [] o[i].n = [⟨1,o[i].n,[]⟩]:=by simp [bD]
      simp [g48,g5000,g128];intro b H;refine Ent.kill 5001 (Ent.refl ⟨i + 1,by omega,by omega,H,none,?_⟩);rw [hs,hk];simp [e,Part.row,g64,g80]
    ·simp [c2,c3,cn]
     refine Ent.refl ⟨i + 1,by omega,by omega,Hl,Hp,?_⟩;rw [hs];simp [cR,c2,c3,cn,e]
 ·have he : o.take i = o:=List.take_of_length_le (by omega)
  rw [he] at hok ⊢;have hn : normal o = aF (aV o).1 (aV o).2.1 (aV o).2.2:=rfl;rw [hn];generalize aV o = s at hok;obtain ⟨L,P,D⟩:=s;obtain ⟨k1,k2,k3,k4,k5⟩:=hok;simp only at k1 k2 k3 k4 k5;simp [h];refine kz (L:=L) (P:=P) (D:=D) (Hl:=Hl) (Hp:=Hp) (by omega) (by omega) (by simp) (by simp) (by simp) (by simp) (by simp) (λHl' h' g48 g5000 g64 g80 g128=>?_);simp [g48,g5000]
theorem j5 {w0 : World} {bF bG : Nat->Prop} {bl : Bool} {st : ASt} {dst : Option Nat} {K : ASt->Prop} {L : List Part} {P : List Int} {D : Int} {b : Nat} {Hl Hp : Hd} (hL : L.length<=2 ^ 20) (_hP : P.length<=2 ^ 40)
 (g160 : st.h.get 160 = .vars b 363 [.sl 5000 Hl 3 0 L.length,.sl 5001 Hp 1 0 P.length,.v (.int .i64 D)])
 (g5000 : st.h.get 5000 = .rows Hl 3 (L.map Part.row) true) (g5001 : st.h.get 5001 = .rows Hp 1 (P.map al) true)
 (hK : ∀ Hl' h',AH.get h' 160 = .vars b 363 [.sl 5000 Hl' 3 0 (aF L P D).length,.nil,.v (.int .i64 0)] -> AH.get h' 5000 = .rows Hl' 3 ((aF L P D).map Part.row) true ->
  AH.get h' 80 = st.h.get 80->aT ⟨st.n,st.kb,st.t,h'⟩ dst (.tup []) K) : aa ⟨Tryz.prog,tt,w0,⟨bF,bG,bl,λ_=>True⟩⟩ 408 [.p 160 b 0] st dst K:=by
 refine inl ag Tryz.func408 20000 (λw1 F=>?_);simp [g160];by_cases hp : P = []
 ·have hp0 : ¬ 0 < P.length:=by simp [hp]
  simp [hp0,g160];by_cases hd : 0 < D
  ·simp [hd]
   refine drw eok mix [0,1,2,3,4,5,6,7,8,9,12,13] [10,11,14] (.c 12 10 4 4091 (.c 12 11 128 3963 (.c 12 14 3961 2 (.l 12 2) .s) .s) .s) ?_;simp [g160,g5000];intro b1;refine ⟨by omega,λH=>hK H _ ?_ ?_ ?_⟩<;>simp [nX hp hd,Part.row]
  ·simp [hd,g160]
   refine hK Hl _ ?_ ?_ ?_<;>simp [nW hp hd,g5000]
 ·have hp0 : 0 < P.length:=List.length_pos_iff.2 hp
  simp [hp0];refine drw eok mix [0,1,2,3,4,5,6,7,8,9,12,13] [10,11,14] (.c 12 10 4 4091 (.c 12 11 128 3963 (.c 12 14 3961 2 (.l 12 2) .s) .s) .s) ?_;simp [g160,g5000,g5001];intro b1;refine ⟨by omega,λH=>?_⟩;by_cases hd : 0 < D
  ·simp [hd]
   refine drw eok mix [0,1,2,3,4,5,6,7,8,9,12,13] [10,11,14] (.c 12 10 4 4091 (.c 12 11 128 3963 (.c 12 14 3961 2 (.l 12 2) .s) .s) .s) ?_;simp;intro b2;refine ⟨by omega,λH2=>hK H2 _ ?_ ?_ ?_⟩<;>simp [nZ hp hd,Part.row]
  ·simp [hd]
   refine hK H _ ?_ ?_ ?_<;>simp [nY hp hd,Part.row]
theorem rE {w0 : World} {bF bG : Nat->Prop} {bl : Bool} {st : ASt} {dst : Option Nat} {K : ASt->Prop} {L : List Part} {P : List Int} {D n : Int} {b : Nat} {Hl Hp : Hd} (hL : L.length<=2 ^ 19) (hP : P.length<=2 ^ 40) (hn0 : 0 < n) (hn : n<=200) (hF : ∀ q∈aF L P D,0<=q.n/\q.n<=2 ^ 40)
 (g160 : st.h.get 160 = .vars b 363 [.sl 5000 Hl 3 0 L.length,.sl 5001 Hp 1 0 P.length,.v (.int .i64 D)])
 (g5000 : st.h.get 5000 = .rows Hl 3 (L.map Part.row) true) (g5001 : st.h.get 5001 = .rows Hp 1 (P.map al) true)
 (hK : ∀ Hl' h',AH.get h' 160 = .vars b 363 [.sl 5000 Hl' 3 0 (bD (aF L P D) n).length,.nil,.v (.int .i64 0)] -> AH.get h' 5000 = .rows Hl' 3 ((bD (aF L P D) n).map Part.row) true ->
  AH.get h' 80 = st.h.get 80->aT ⟨st.n,st.kb,st.t,h'⟩ dst (.tup []) K) : aa ⟨Tryz.prog,tt,w0,⟨bF,bG,bl,λ_=>True⟩⟩ 397 [.p 160 b 0,.v (.int .i64 n)] st dst K:=by
 refine inl ag Tryz.func397 30000 (λw1 F=>?_);have n0 : ¬ n = 0:=by omega
 simp [n0];refine j5 (L:=L) (P:=P) (D:=D) (Hl:=Hl) (Hp:=Hp) (by omega) hP (by simp [g160]) (by simp [g5000]) (by simp [g5001]) (λHl' h' k160 k5000 k80=>?_);have f1:=fi L P D;generalize aF L P D = F at f1 hF k160 k5000 hK;by_cases hF0 : 0 < F.length
 ·obtain ⟨m,hm⟩ : ∃ m,F.length = m + 1:=⟨F.length - 1,by omega⟩
  have hmlt : m < F.length:=by omega
  have hmm : (m : Int) < m + 1:=by omega
  have em : Go.IntKind.i64.wrap (m : Int) = m:=co (by omega)
  have hk : bD F n = if F[m].kind = 1 then F.set m ⟨1,F[m].n + n,F[m].signs⟩ else F ++ [⟨1,n,[]⟩]:=by
   have e0 : F.length - 1 = m:=by omega
   simp [bD,hF0,e0]
  have hq:=hF _ (List.getElem_mem hmlt);have em2 : Go.IntKind.i64.wrap (F[m].n + n) = F[m].n + n:=Go.IntWalk.i64_in _ (by omega);simp [k160,k5000,hm,em,hmm,Part.row];by_cases ck : F[m].kind = 1
  ·rw [if_pos ck] at hk
   simp [ck];refine drw eok mix [0,1,2,3,4,5,6,7,8,9,10,11,12,13,14,15,16,17,18] [19] (.c 19 19 524285 2 (.l 19 2) .s) ?_;simp [k160,k5000,hm,em,hmm,Part.row,ck,em2];have hmod:=jt (F:=F) (m:=m) hmlt (g:=λrow=>eb row 1 [CD.v (Value.int IntKind.i64 (F[m].n + n))]) (p:=⟨1,F[m].n + n,F[m].signs⟩) (by simp [Part.row,ck]);refine hK Hl' _ ?_ ?_ ?_
   ·simp [k160,hk,hm]
   ·simp [hk,hmod]
   ·simp [k80]
  ·rw [if_neg ck] at hk
   simp [ck,k160,k5000,hm];intro b1;refine ⟨by omega,λH=>hK H _ ?_ ?_ ?_⟩<;>simp [hk,hm,Part.row,k80]
 ·have hF1 : F = []:=List.eq_nil_of_length_eq_zero (by omega)
  subst hF1;have hk : bD [] n = [⟨1,n,[]⟩]:=by simp [bD]
  simp [k160,k5000];intro b1 H;refine hK H _ ?_ ?_ ?_<;>simp [hk,Part.row,k80]
open Classical in
noncomputable def bJ (o : List Part) : List Part:=if bB o then normal o else []
theorem mY (o : List Part) (hl : nL ar o<=2 ^ 40) : ac Tryz.prog 336 [.c (.s (o.map Part.row))] (.one (.c (.s ((bJ o).map Part.row)) 3)):=by
 refine pci ag Tryz.func336 (λw0 base=>?_);simp;refine aa.pure (dH o hl) (by simp) ?_;by_cases h : bB o
 ·have e : bJ o = normal o:=by unfold bJ;rw [if_pos h]
  simp [h,e];refine aa.pure (qg o h.1.1 (by have:=h.1.2;omega)) (by simp) ?_;simp
 ·have e : bJ o = []:=by unfold bJ;rw [if_neg h]
  have e2 : dc (bB o) = false:=by rw [bb];exact h
  simp [e,e2]
theorem mG (o : List Part) (hl : nL ar o<=2 ^ 40) : ac Tryz.prog 388 [.c (.s (o.map Part.row))] (.one (.c (.s ((bJ o).map Part.row)) 3)):=by
 refine pci ag Tryz.func388 (λw0 base=>?_);simp;refine aa.pure (dF o hl) (by simp) ?_;by_cases hopk : bB o
 rotate_left
 ·have e : bJ o = []:=by unfold bJ;rw [if_neg hopk]
  have e2 : dc (bB o) = false:=by rw [bb];exact hopk
  simp [e,e2]
 have e : bJ o = normal o:=by unfold bJ;rw [if_pos hopk]
 have ho:=hopk.1.1;have hlen:=hopk.1.2;simp [hopk,e];intro b
 refine aj eok (λx : Nat × Hd × Hd=>x.1<=o.length) (λx=>⟨38,0,[(13,.v (.int .i64 x.1)),(12,.v (.int .i64 o.length)),(11,.ro (o.map Part.row)),(3,.p 160 b 0)],
  [(160, .vars b 363 [.sl 5000 x.2.1 3 0 (aV (o.take x.1)).1.length, .sl 5001 x.2.2 1 0 (aV (o.take x.1)).2.1.length, .v (.int .i64 (aV (o.take x.1)).2.2)]),
   (5000,.rows x.2.1 3 ((aV (o.take x.1)).1.map Part.row) true),(5001,.rows x.2.2 1 ((aV (o.take x.1)).2.1.map al) true)]⟩) (λx=>o.length - x.1) (0,none,none) (by simp) (by simp [aV]) (λx hx=>Ent.refl ?_)
 obtain ⟨i,Hl,Hp⟩:=x;simp only at hx ⊢;have hok:=i8 ho i hx;by_cases h : i < o.length
 ·have hs:=fg h
  have hpb:=(ho _ (List.getElem_mem h)).bounds;generalize aV (o.take i) = s at hok hs;obtain ⟨L,P,D⟩:=s;obtain ⟨k1,k2,k3,k4,k5⟩:=hok;simp only at k1 k2 k3 k4 k5;have e : Go.IntKind.i64.wrap ((i : Int) + 1) = ((i + 1 : Nat) : Int):=ah (by omega);simp [h,Part.row];intro b5;by_cases c1 : o[i].kind = 1
  ·simp [c1]
   by_cases cn : 0 < o[i].n
   ·have hstep : cR (L,P,D) o[i] = (bD (aF L P D) o[i].n,[],0):=by simp [cR,c1,cn]
    rw [hstep] at hs;have f2:=fh (P:=P) k3 k4 k5;refine rE (L:=L) (P:=P) (D:=D) (Hl:=Hl) (Hp:=Hp) (by omega) (by omega) cn hpb.2.2.1 (λq hq=>by have:=f2 q hq;omega) (by simp) (by simp) (by simp) (λHl' h' k160 k5000 k80=>?_);simp;refine Ent.kill 5001 (Ent.refl ⟨i + 1,by omega,by omega,Hl',none,?_⟩);rw [hs];simp [e,k160,k5000]
   ·have cn0 : o[i].n = 0:=by omega
    refine inl ag Tryz.func397 30000 (λw1 F=>?_);simp [cn0];refine Ent.refl ⟨i + 1,by omega,by omega,Hl,Hp,?_⟩;rw [hs];simp [cR,c1,cn0,e]
  ·by_cases c2 : o[i].kind = 2
   ·simp [c2]
    refine inl ag Tryz.func394 30000 (λw1 F=>?_);simp;refine ⟨by omega,λH=>?_⟩;refine Ent.refl ⟨i + 1,by omega,by omega,Hl,H,?_⟩;rw [hs];simp [cR,c2,e]
   ·have c3 : o[i].kind = 3:=by omega
    have e3 : Go.IntKind.i64.wrap (D + o[i].n) = D + o[i].n:=Go.IntWalk.i64_in _ (by omega);simp [c1,c2];refine inl ag Tryz.func393 30000 (λw1 F=>?_);simp [e3];refine Ent.refl ⟨i + 1,by omega,by omega,Hl,Hp,?_⟩;rw [hs];simp [cR,c3,e]
 ·have he : o.take i = o:=List.take_of_length_le (by omega)
  rw [he] at hok ⊢;have hn : normal o = aF (aV o).1 (aV o).2.1 (aV o).2.2:=rfl;rw [hn];generalize aV o = s at hok;obtain ⟨L,P,D⟩:=s;obtain ⟨k1,k2,k3,k4,k5⟩:=hok;simp only at k1 k2 k3 k4 k5;simp [h];refine inl ag Tryz.func398 30000 (λw1 F=>?_);simp;refine j5 (L:=L) (P:=P) (D:=D) (Hl:=Hl) (Hp:=Hp) (by omega) (by omega) (by simp) (by simp) (by simp) (λHl' h' k160 k5000 k80=>?_);simp [k160,k5000]
theorem i7 (a b : List Int) (hl : a.length<=2 ^ 40) : ac Tryz.prog 117 [.c (.s (a.map al)),.c (.s (b.map al))] (.one (.c (vb (a = b)) 1)):=by
 refine pci ag Tryz.func117 (λw0 base=>?_);by_cases h : a.length = b.length
 ·simp [h]
  refine ak.intro eok (λi : Nat=>i<=a.length/\a.take i = b.take i) (λi=>⟨26,0,[(13,.v (.int .i64 i)),(12,.v (.int .i64 b.length)),(1,.ro (b.map al)),(0,.ro (a.map al))],[]⟩) (λi=>a.length - i) 0 (by simp) (by simp) (λi hi=>?_);by_cases hlt : i < a.length
  ·have hlt' : i < b.length:=by omega
   simp [hlt'];refine aD.quiet eok mix (by kernel_rfl) ?_;simp [hlt,hlt'];refine Br.mk (λh1=>?_) (λh1=>?_)
   ·simp
    exact ⟨i + 1,⟨by omega,bC hlt hlt' hi.2 (ee h1)⟩,by omega,ah (by omega)⟩
   ·simp [bb]
    exact en hlt hlt' (fR h1)
  ·have hlt' : ¬ i < b.length:=by omega
   simp [hlt',dN];exact bT (by omega) (by omega) hi.2
 ·have hz : ¬ (a.length : Int) = b.length:=by omega
  simp [hz,bb];exact λh2=>absurd (by rw [h2]) h
theorem j6 (a b : List Int) (hl : a.length<=2 ^ 40) : ac Tryz.prog 194 [.c (.s (a.map al)),.c (.s (b.map al))] (.one (.c (vb (a = b)) 1)):=by
 refine pci ag Tryz.func194 (λw0 base=>?_);by_cases h : a.length = b.length
 ·simp [h]
  refine ak.intro eok (λi : Nat=>i<=a.length/\a.take i = b.take i) (λi=>⟨26,0,[(13,.v (.int .i64 i)),(12,.v (.int .i64 b.length)),(1,.ro (b.map al)),(0,.ro (a.map al))],[]⟩) (λi=>a.length - i) 0 (by simp) (by simp) (λi hi=>?_);by_cases hlt : i < a.length
  ·have hlt' : i < b.length:=by omega
   simp [hlt'];refine aD.quiet eok mix (by kernel_rfl) ?_;simp [hlt,hlt'];refine Br.mk (λh1=>?_) (λh1=>?_)
   ·simp
    exact ⟨i + 1,⟨by omega,bC hlt hlt' hi.2 (ee h1)⟩,by omega,ah (by omega)⟩
   ·simp [bb]
    exact en hlt hlt' (fR h1)
  ·have hlt' : ¬ i < b.length:=by omega
   simp [hlt',dN];exact bT (by omega) (by omega) hi.2
 ·have hz : ¬ (a.length : Int) = b.length:=by omega
  simp [hz,bb];exact λh2=>absurd (by rw [h2]) h
theorem xA (p q : Part) (hl : p.signs.length<=2 ^ 40) : ac Tryz.prog 307 [.agg p.row,.agg q.row] (.one (.c (vb (p = q)) 1)):=by
 refine pci ag Tryz.func307 (λw0 base=>?_);obtain ⟨k1,n1,s1⟩:=p;obtain ⟨k2,n2,s2⟩:=q;simp [Part.row];intro b1 b2;by_cases h1 : k1 = k2
 ·by_cases h2 : n1 = n2
  ·simp [h1,h2]
   refine aa.pure (i7 s1 s2 hl) (by simp) ?_;simp
  ·simp [h1,h2]
 ·simp [h1]
theorem wD (a b : List Part) (hl : a.length<=2 ^ 40) (hs : ∀ p∈a,p.signs.length<=2 ^ 40) : ac Tryz.prog 306 [.c (.s (a.map Part.row)),.c (.s (b.map Part.row)),.c (.v (.func (.func 307) #[] #[]))] (.one (.c (vb (a = b)) 1)):=by
 refine pci ag Tryz.func306 (λw0 base=>?_);by_cases h : a.length = b.length
 ·simp [h]
  refine ak.intro eok (λi : Nat=>i<=a.length/\a.take i = b.take i) (λi=>⟨32,0,[(17,.v (.int .i64 i)),(16,.v (.int .i64 b.length)),(15,.ro (a.map Part.row)),(2,.v (.func (.func 307) #[] #[])),(1,.ro (b.map Part.row))],[]⟩) (λi=>a.length - i) 0 (by simp) (by simp) (λi hi=>?_);by_cases hlt : i < a.length
  ·have hlt' : i < b.length:=by omega
   simp [hlt,hlt',Part.row];intro b1 b2;refine aa.pure (xA a[i] b[i] (hs _ (List.getElem_mem hlt))) (by simp [Part.row]) ?_;simp;refine Br.mk (λh1=>?_) (λh1=>?_)
   ·simp
    exact ⟨i + 1,⟨by omega,bC hlt hlt' hi.2 (ee h1)⟩,by omega,ah (by omega)⟩
   ·simp [bb]
    exact en hlt hlt' (fR h1)
  ·have hlt' : ¬ i < b.length:=by omega
   simp [hlt',dN];exact bT (by omega) (by omega) hi.2
 ·have hz : ¬ (a.length : Int) = b.length:=by omega
  simp [hz,bb];exact λh2=>absurd (by rw [h2]) h
theorem DL (a b : List Part) (hl : a.length<=2 ^ 40) (hs : ∀ p∈a,p.signs.length<=2 ^ 40) : ac Tryz.prog 225 [.c (.s (a.map Part.row)),.c (.s (b.map Part.row))] (.one (.c (vb (a = b)) 1)):=by
 refine pci ag Tryz.func225 (λw0 base=>?_);simp;refine aa.pure (wD a b hl hs) (by simp) ?_;simp
theorem tT (a b : List Part) (hl : a.length<=2 ^ 40) (hs : ∀ p∈a,p.signs.length<=2 ^ 40) : ac Tryz.prog 285 [.c (.s (a.map Part.row)),.c (.s (b.map Part.row))] (.one (.c (vb (a = b)) 1)):=by
 refine pci ag Tryz.func285 (λw0 base=>?_);by_cases h : a.length = b.length
 ·simp [h]
  refine ak.intro eok (λi : Nat=>i<=a.length/\a.take i = b.take i) (λi=>⟨49,0,[(14,.v (.int .i64 i)),(13,.v (.int .i64 b.length)),(12,.ro (a.map Part.row)),(1,.ro (b.map Part.row))],[]⟩) (λi=>a.length - i) 0 (by simp) (by simp) (λi hi=>?_);by_cases hlt : i < a.length
  ·have hlt' : i < b.length:=by omega
   simp [hlt,hlt',Part.row];intro b1;refine aD.quiet eok mix (by kernel_rfl) ?_;simp [hlt',Part.row];by_cases h1 : a[i].kind = b[i].kind
   ·by_cases h2 : a[i].n = b[i].n
    ·simp [h1,h2,hlt',Part.row]
     refine ⟨_,_,j6 a[i].signs b[i].signs (hs _ (List.getElem_mem hlt)),by simp,?_⟩;simp;by_cases h3 : a[i].signs = b[i].signs
     ·simp [h3]
      have he : a[i] = b[i]:=by
       cases hx : a[i];cases hy : b[i]
       rw [hx,hy] at h1 h2 h3;simp at h1 h2 h3;rw [h1,h2,h3]
      exact ⟨i + 1,⟨by omega,bC hlt hlt' hi.2 he⟩,by omega,ah (by omega)⟩
     ·simp [h3,bb]
      exact en hlt hlt' (λhe=>h3 (by rw [he]))
    ·simp [h1,h2,hlt',Part.row,bb]
     exact en hlt hlt' (λhe=>h2 (by rw [he]))
   ·simp [h1,bb]
    exact en hlt hlt' (λhe=>h1 (by rw [he]))
  ·have hlt' : ¬ i < b.length:=by omega
   simp [hlt',dN];exact bT (by omega) (by omega) hi.2
 ·have hz : ¬ (a.length : Int) = b.length:=by omega
  simp [hz,bb];exact λh2=>absurd (by rw [h2]) h
theorem jy (a b : List Part) (h : nL ar a<=2 ^ 40) : ac Tryz.prog 225 [.c (.s (a.map Part.row)),.c (.s (b.map Part.row))] (.one (.c (vb (a = b)) 1)):=DL a b (aA h) (λ_p hp=>bZ h hp)
theorem lR (a b : List Part) (h : nL ar a<=2 ^ 40) : ac Tryz.prog 285 [.c (.s (a.map Part.row)),.c (.s (b.map Part.row))] (.one (.c (vb (a = b)) 1)):=tT a b (aA h) (λ_p hp=>bZ h hp)
theorem fc {α : Type} {f : α->Nat} : ∀ (a b : List α),a8 f (a ++ b) = a8 f a + a8 f b
 | [],b=>by simp [a8]
 | x :: a,b=>by simp only [List.cons_append,a8,fc a b];omega
theorem vr {α : Type} {f : α->Nat} : ∀ (l : List α) (i : Nat) (h : i < l.length) (x : α),f x = f l[i]->a8 f (l.set i x) = a8 f l
 | a :: l,0,_,x,hx=>by simp at hx;simp [a8,hx]
 | a :: l, i + 1, h, x, hx => by
   simp only [List.set_cons_succ,a8];rw [vr l i (by simpa using h) x (by simpa using hx)]
theorem oK {L : List Part} {P : List Int} {D : Int} : a8 ar (aF L P D) = a8 ar L + P.length:=by
 unfold aF;rw [fc,fc];by_cases hp : P = []<;>by_cases hd : 0 < D<;>simp [hp,hd,a8,ar]
theorem xQ {L : List Part} {n : Int} : a8 ar (bD L n) = a8 ar L:=by
 unfold bD
 split
 ·rename_i h
  split
  ·exact vr L _ (by omega) _ rfl
  ·rw [fc];simp [a8,ar]
 ·rename_i h
  have : L = []:=List.eq_nil_of_length_eq_zero (by omega);subst this;simp [a8,ar]
theorem sQ {o : List Part} : ∀ (i : Nat),i<=o.length->a8 ar (aV (o.take i)).1 + (aV (o.take i)).2.1.length<=a8 ar (o.take i)
 | 0,_=>by simp [aV,a8]
 | i + 1, hi => by
   have ih:=sQ (o:=o) i (by omega);have hlt : i < o.length:=by omega
   rw [fg hlt,<- List.take_append_getElem hlt,fc];generalize aV (o.take i) = s at ih;generalize o[i] = p;obtain ⟨L,P,D⟩:=s;simp only at ih;have hp : a8 ar [p] = p.signs.length:=by simp [a8,ar]
   rw [hp];unfold cR
   split
   ·simp;omega
   ·split
    ·simp;omega
    ·split
     ·simp only [xQ,oK];simp;omega
     ·simp;omega
theorem xN (o : List Part) : a8 ar (normal o)<=a8 ar o:=by
 have h:=sQ (o:=o) o.length (by omega);rw [List.take_length] at h;unfold normal;rw [oK];exact h
theorem xO {o : List Part} (ho : ∀ p∈o,ao p) : (normal o).length<=3 * o.length + 2:=by
 have h:=(i8 ho o.length (by omega)).l;rw [List.take_length] at h;have:=fi (aV o).1 (aV o).2.1 (aV o).2.2;unfold normal;omega
theorem pQ {o : List Part} (ho : ∀ p∈o,ao p) : a8 ar o<=200 * o.length:=by
 induction o with
 | nil=>simp [a8]
 | cons p o ih =>
   have h1:=(ho p (List.mem_cons_self ..)).bounds;have h2:=ih (λq hq=>ho q (List.mem_cons_of_mem _ hq));simp only [a8,ar,List.length_cons];omega
theorem vW {o : List Part} (ho : ∀ p∈o,ao p) : nL ar o<=201 * o.length:=by
 have:=pQ ho;unfold nL;omega
theorem i9 {o : List Part} (ho : ∀ p∈o,ao p) : nL ar (normal o)<=203 * o.length + 2:=by
 have h1:=xN o;have h2:=xO ho;have h3:=pQ ho;unfold nL;omega
theorem mN (o : List Part) : nL ar (bJ o)<=2 ^ 20:=by
 unfold bJ
 split
 ·rename_i h
  have:=i9 h.1.1;have:=h.1.2;omega
 ·simp [nL,a8]
def eZ (o : List Part) : Prop:=bB o/\bJ o = o
theorem ux (o : List Part) (hl : nL ar o<=2 ^ 40) : ac Tryz.prog 252 [.c (.s (o.map Part.row))] (.one (.c (vb (eZ o)) 1)):=by
 refine pci ag Tryz.func252 (λw0 base=>?_);simp;refine aa.pure (dH o hl) (by simp) ?_;by_cases h : bB o
 ·simp [h]
  refine aa.pure (mY o hl) (by simp) ?_;simp;intro H;refine aa.pure (jy o (bJ o) hl) (by simp) ?_;simp [eZ,h];exact qU ⟨λh=>h.symm,λh=>h.symm⟩
 ·simp [h,eZ]
theorem tX (o : List Part) (hl : nL ar o<=2 ^ 40) : ac Tryz.prog 353 [.c (.s (o.map Part.row))] (.one (.c (vb (eZ o)) 1)):=by
 refine pci ag Tryz.func353 (λw0 base=>?_);simp;refine aa.pure (dF o hl) (by simp) ?_;by_cases h : bB o
 ·simp [h]
  refine aa.pure (mG o hl) (by simp) ?_;simp;intro H;refine aa.pure (lR (bJ o) o (Nat.le_trans (mN o) (by decide))) (by simp) ?_;simp [eZ,h]
 ·simp [h,eZ]
def cg (t : List Int) : Prop:=t.length<=200/\ei t
theorem fM (t : List Int) (hl : t.length<=2 ^ 40) : ac Tryz.prog 214 [.c (.s (t.map al))] (.one (.c (vb (cg t)) 1)):=by
 refine pci ag Tryz.func214 (λw0 base=>?_);by_cases h : t.length<=200
 ·have h' : (t.length : Int)<=200:=by omega
  simp [h'];refine aa.pure (lU t hl) (by simp) ?_;simp [cg,h]
 ·have h' : ¬ (t.length : Int)<=200:=by omega
  simp [h',cg,h]
theorem gH (t : List Int) (hl : t.length<=2 ^ 40) : ac Tryz.prog 209 [.c (.s (t.map al))] (.one (.c (vb (cg t)) 1)):=by
 refine pci ag Tryz.func209 (λw0 base=>?_);simp;refine aa.pure (lO t hl) (by simp) ?_;have e : ((t.length : Int)<=200) = (t.length<=200):=by simp;omega
 by_cases hg : ei t
 ·simp [hg,cg,e]
 ·simp [hg,cg]
def psz (p : Part) : Nat:=p.n.toNat + p.signs.length
def dX (p : Part) (n : Nat) : Part:=if p.kind = 2 then ⟨p.kind,p.n,p.signs.take n⟩ else ⟨p.kind,n,p.signs⟩
def a9 (p : Part) (n : Nat) : Part:=if p.kind = 2 then ⟨p.kind,p.n,p.signs.drop n⟩ else ⟨p.kind,p.n - n,p.signs⟩
theorem el {p : Part} (h : ao p) : (psz p : Int) = p.n + p.signs.length/\psz p<=200:=by
 have hb:=h.bounds;unfold psz;by_cases hk : p.kind = 2
 ·have:=hb.2.2.2.2.1 hk
  omega
 ·have:=hb.2.2.2.2.2 hk
  rw [this];simp;omega
@[simp] theorem Mh {p : Part} {n : Nat} : (dX p n).kind = p.kind:=by unfold dX;split<;>rfl
@[simp] theorem Kd {p : Part} {n : Nat} : (a9 p n).kind = p.kind:=by unfold a9;split<;>rfl
theorem ln {p : Part} (h : ao p) {n : Nat} (hn : n<=psz p) : ao (dX p n):=by
 have hp:=el h;unfold dX;by_cases hk : p.kind = 2
 ·rw [if_pos hk]
  rw [eX hk] at h;refine .inr ⟨hk,h.1,?_,λm hm=>h.2.2 m (List.mem_of_mem_take hm)⟩;simp;omega
 ·rw [if_neg hk]
  have hb:=h.bounds;have hk2 : p.kind = 1\/p.kind = 3:=by omega
  have:=hb.2.2.2.2.2 hk;refine .inl ⟨hk2,?_,this⟩;simp only;omega
theorem vP {p : Part} (h : ao p) {n : Nat} (hn : n<=psz p) : ao (a9 p n):=by
 have hp:=el h;unfold a9;by_cases hk : p.kind = 2
 ·rw [if_pos hk]
  rw [eX hk] at h;refine .inr ⟨hk,h.1,?_,λm hm=>h.2.2 m (List.mem_of_mem_drop hm)⟩;simp;omega
 ·rw [if_neg hk]
  have hb:=h.bounds;have hk2 : p.kind = 1\/p.kind = 3:=by omega
  have:=hb.2.2.2.2.2 hk;refine .inl ⟨hk2,?_,this⟩;rw [this] at hp;simp at hp;simp only;omega
theorem gj {p : Part} (h : ao p) {n : Nat} (hn : n<=psz p) : psz (a9 p n) = psz p - n:=by
 have hb:=h.bounds;unfold psz a9 at *;by_cases hk : p.kind = 2
 ·rw [if_pos hk]
  have:=hb.2.2.2.2.1 hk;simp only [this,List.length_drop] at hn ⊢;omega
 ·rw [if_neg hk]
  have:=hb.2.2.2.2.2 hk;simp only [this,List.length_nil] at hn ⊢;omega
theorem di {p : Part} (h : ao p) : dX p (psz p) = p:=by
 have hb:=h.bounds;unfold psz dX;by_cases hk : p.kind = 2
 ·rw [if_pos hk]
  have:=hb.2.2.2.2.1 hk;rw [List.take_of_length_le (by omega)]
 ·rw [if_neg hk]
  have:=hb.2.2.2.2.2 hk;obtain ⟨k,n,s⟩:=p;simp only at this hb;subst this;simp;omega
theorem vO {p : Part} {m n : Nat} : a9 (a9 p m) n = a9 p (m + n):=by
 unfold a9;by_cases hk : p.kind = 2
 ·simp [hk,List.drop_drop]
 ·simp [hk]
  omega
theorem xF {p : Part} : a9 p 0 = p:=by unfold a9;split<;>simp
def nxt : List Part->List Part
 | []=>[]
 | p :: l=>if psz p = 0 then nxt l else p :: l
def tsz : List Part->Nat
 | []=>0
 | p :: l=>psz p + tsz l
def frs : List Part->Nat
 | []=>0
 | p :: l=>(if p.kind = 2 then 0 else psz p) + frs l
def tos : List Part->Nat
 | []=>0
 | p :: l=>(if p.kind = 3 then 0 else psz p) + tos l
theorem t9 : ∀ l : List Part,tsz (nxt l) = tsz l
 | []=>rfl
 | p :: l => by
   unfold nxt
   split
   ·rename_i h;rw [t9 l];simp [tsz,h]
   ·rfl
theorem gL : ∀ l : List Part,frs (nxt l) = frs l
 | []=>rfl
 | p :: l => by
   unfold nxt
   split
   ·rename_i h;rw [gL l];simp [frs,h]
   ·rfl
theorem dw : ∀ {l : List Part} {p : Part} {l' : List Part},nxt l = p :: l'->0 < psz p
 | [],p,l',h=>by simp [nxt] at h
 | q :: l, p, l', h => by
   unfold nxt at h
   split at h
   ·exact dw h
   ·simp at h;rw [<- h.1];omega
theorem dx : ∀ l : List Part,nxt (nxt l) = nxt l
 | []=>rfl
 | p :: l => by
   by_cases h : psz p = 0
   ·simp only [nxt,h,if_true];exact dx l
   ·simp only [nxt,h,if_false]
theorem mg : ∀ l : List Part,∃ k,k<=l.length/\nxt l = l.drop k/\∀ i,(h : i < l.length)->i < k->psz l[i] = 0
 | []=>⟨0,by simp,rfl,λi h=>by simp at h⟩
 | p :: l => by
   by_cases h : psz p = 0
   ·obtain ⟨k,h1,h2,h3⟩:=mg l
    refine ⟨k + 1,by simp;omega,by simp [nxt,h,h2],λi hi hk=>?_⟩
    cases i with
    | zero=>simpa using h
    | succ i=>simpa using h3 i (by simpa using hi) (by omega)
   ·exact ⟨0,by simp,by simp [nxt,h],λi _ hk=>by omega⟩
theorem iw {l : List Part} {p : Part} (h : p∈nxt l) : p∈l:=by
 obtain ⟨k,_,h2,_⟩:=mg l;rw [h2] at h;exact List.mem_of_mem_drop h
theorem zn (l : List Part) : (nxt l).length<=l.length:=by
 obtain ⟨k,_,h2,_⟩:=mg l;rw [h2];simp
theorem ja {l l' : List Part} {p : Part} {n : Nat} (hl : ∀ q∈l,ao q) (he : nxt l = p :: l') (hn : n<=psz p) : ∀ q∈a9 p n :: l',ao q:=by
 intro q hq;rcases List.mem_cons.1 hq with rfl | hq
 ·exact vP (hl p (iw (he ▸ List.mem_cons_self ..))) hn
 ·exact hl q (iw (he ▸ List.mem_cons_of_mem _ hq))
theorem eR {l l' : List Part} {p : Part} (hl : ∀ q∈l,ao q) (he : nxt l = p :: l') : ao p/\∀ q∈p :: l',ao q:=
 ⟨hl p (iw (he ▸ List.mem_cons_self ..)),λq hq=>hl q (iw (he ▸ hq))⟩
abbrev XR:=(List Part × List Part) × List Part × List Part
def cE (x y : List Part) : Option XR:=
 match nxt x with
 | p :: x' => if p.kind = 2 then some (([dX p (psz p)], [⟨1, p.signs.length, []⟩]), a9 p (psz p) :: x', y) else match nxt y with
   | q :: y' => if q.kind = 2 then some (([⟨1, q.signs.length, []⟩], [dX q (psz q)]), p :: x', a9 q (psz q) :: y') else
       some ((if q.kind = 1 then [dX p (min (psz p) (psz q))] else [],if p.kind = 1 then [dX q (min (psz p) (psz q))] else []),a9 p (min (psz p) (psz q)) :: x',a9 q (min (psz p) (psz q)) :: y')
   | []=>none
 | [] => match nxt y with
   | q :: y'=>if q.kind = 2 then some (([⟨1,q.signs.length,[]⟩],[dX q (psz q)]),[],a9 q (psz q) :: y') else none
   | []=>none
structure TInv (x y : List Part) : Prop where
 px : ∀ p∈x,ao p
 py : ∀ p∈y,ao p
 b : frs x = frs y
structure TNext (x y : List Part) (r : XR) : Prop where
 inv : TInv r.2.1 r.2.2
 dec : tsz r.2.1 + tsz r.2.2 < tsz x + tsz y
 okx : ∀ p∈r.1.1,ao p
 oky : ∀ p∈r.1.2,ao p
 lenx : r.1.1.length<=1
 leny : r.1.2.length<=1
theorem yb {p : Part} (h : ao p) : ao ⟨1,p.signs.length,[]⟩:=by
 have:=h.bounds;exact .inl ⟨.inl rfl,by simp only;omega,rfl⟩
theorem cQ {x y : List Part} (hi : TInv x y) {r : XR} (h : cE x y = some r) : TNext x y r:=by
 have hx:=t9 x;have hy:=t9 y;have hxt:=gL x;have hyf:=gL y;have hb:=hi.b;unfold cE at h
 cases ex : nxt x with
 | nil =>
   rw [ex] at h hx hxt
   cases ey : nxt y with
   | nil=>simp [ey] at h
   | cons q y' =>
     rw [ey] at hy hyf;have hq:=eR hi.py ey;have hp:=dw ey;simp only [ey] at h
     split at h
     ·rename_i k
      cases h
      have hs:=gj hq.1 (Nat.le_refl _);refine ⟨⟨by simp,ja hi.py ey (Nat.le_refl _),?_⟩,?_,?_,?_,by simp,by simp⟩
      ·simp [frs,k] at hxt hyf ⊢;omega
      ·simp [tsz] at hx hy ⊢;omega
      ·intro p hp;simp at hp;subst hp;exact yb hq.1
      ·intro p hp;simp at hp;subst hp;exact ln hq.1 (Nat.le_refl _)
     ·cases h
 | cons p x' =>
   rw [ex] at h hx hxt;have hp:=eR hi.px ex;have hpp:=dw ex;simp only at h
   split at h
   ·rename_i k
    cases h
    have hs:=gj hp.1 (Nat.le_refl _);refine ⟨⟨ja hi.px ex (Nat.le_refl _),hi.py,?_⟩,?_,?_,?_,by simp,by simp⟩
    ·simp [frs,k] at hxt ⊢;omega
    ·simp [tsz] at hx ⊢;omega
    ·intro q hq;simp at hq;subst hq;exact ln hp.1 (Nat.le_refl _)
    ·intro q hq;simp at hq;subst hq;exact yb hp.1
   ·rename_i k3
    cases ey : nxt y with
    | nil=>simp [ey] at h
    | cons q y' =>
      rw [ey] at hy hyf;have hq:=eR hi.py ey;have hqp:=dw ey;simp only [ey] at h
      split at h
      ·rename_i k
       cases h
       have hs:=gj hq.1 (Nat.le_refl _);refine ⟨⟨hp.2,ja hi.py ey (Nat.le_refl _),?_⟩,?_,?_,?_,by simp,by simp⟩
       ·simp [frs,k,k3] at hxt hyf ⊢;omega
       ·simp [tsz] at hx hy ⊢;omega
       ·intro p hp;simp at hp;subst hp;exact yb hq.1
       ·intro p hp;simp at hp;subst hp;exact ln hq.1 (Nat.le_refl _)
      ·rename_i k2
       cases h
       have hn1 : min (psz p) (psz q)<=psz p:=by omega
       have hn2 : min (psz p) (psz q)<=psz q:=by omega
       have hs1:=gj hp.1 hn1;have hs2:=gj hq.1 hn2;refine ⟨⟨ja hi.px ex hn1,ja hi.py ey hn2,?_⟩,?_,?_,?_,?_,?_⟩
       ·simp [frs,k2,k3] at hxt hyf ⊢;omega
       ·simp [tsz] at hx hy ⊢;omega
       ·intro r hr
        simp only at hr
        split at hr
        ·simp at hr;subst hr;exact ln hp.1 hn1
        ·simp at hr
       ·intro r hr
        simp only at hr
        split at hr
        ·simp at hr;subst hr;exact ln hq.1 hn2
        ·simp at hr
       ·simp only;split<;>simp
       ·simp only;split<;>simp
noncomputable def xfK : Nat->List Part->List Part->List Part × List Part
 | 0,_,_=>([],[])
 | k + 1, x, y => match cE x y with
   | none=>([],[])
   | some r=>(r.1.1 ++ (xfK k r.2.1 r.2.2).1,r.1.2 ++ (xfK k r.2.1 r.2.2).2)
noncomputable def xf (x y : List Part) : List Part × List Part:=xfK (tsz x + tsz y) x y
theorem B5 : ∀ (k m : Nat) {x y : List Part},TInv x y->tsz x + tsz y<=k->tsz x + tsz y<=m->xfK k x y = xfK m x y
 | 0,0,_,_,_,_,_=>rfl
 | k + 1, 0, x, y, hi, h, h2 => by
   rw [xfK,xfK]
   cases hs : cE x y with
   | none=>rfl
   | some r=>have:=(cQ hi hs).dec;omega
 | 0, m + 1, x, y, hi, h, h2 => by
   rw [xfK,xfK]
   cases hs : cE x y with
   | none=>rfl
   | some r=>have:=(cQ hi hs).dec;omega
 | k + 1, m + 1, x, y, hi, h, h2 => by
   rw [xfK,xfK]
   cases hs : cE x y with
   | none=>rfl
   | some r =>
     have hn:=cQ hi hs;have:=hn.dec;simp only;rw [B5 k m hn.inv (by omega) (by omega)]
theorem y3 {x y : List Part} (h : cE x y = none) : xf x y = ([],[]):=by
 unfold xf
 cases tsz x + tsz y with
 | zero=>rfl
 | succ k=>rw [xfK,h]
theorem FO {x y : List Part} (hi : TInv x y) {r : XR} (h : cE x y = some r) : xf x y = (r.1.1 ++ (xf r.2.1 r.2.2).1,r.1.2 ++ (xf r.2.1 r.2.2).2):=by
 have hn:=cQ hi h;have hd:=hn.dec;unfold xf;obtain ⟨k,hk⟩ : ∃ k,tsz x + tsz y = k + 1:=⟨tsz x + tsz y - 1,by omega⟩;rw [hk,xfK,h];simp only;rw [B5 k (tsz r.2.1 + tsz r.2.2) hn.inv (by omega) (by omega)]
theorem uB : ∀ {o : List Part},(∀ p∈o,ao p)->(frs o : Int) = bY (jF 2) o
 | [],_=>rfl
 | p :: o, h => by
   have ih:=uB (λq hq=>h q (List.mem_cons_of_mem _ hq));have hp:=el (h p (List.mem_cons_self ..));simp only [frs,bY,jF]
   split<;>simp<;>omega
theorem tK : ∀ {o : List Part},(∀ p∈o,ao p)->(tos o : Int) = bY (jF 3) o
 | [],_=>rfl
 | p :: o, h => by
   have ih:=tK (λq hq=>h q (List.mem_cons_of_mem _ hq));have hp:=el (h p (List.mem_cons_self ..));simp only [tos,bY,jF]
   split<;>simp<;>omega
theorem jc {o : List Part} (h : bB o) : (frs o : Int) = bk o:=by
 rw [uB h.1.1,eV (λp hp=>Li (h.1.1 p hp)),gW];unfold bk ch;rw [if_pos h.1]
theorem nF {o : List Part} (h : bB o) : (tos o : Int) = iL o:=by
 rw [tK h.1.1,eV (λp hp=>Lh (h.1.1 p hp)),gW];unfold iL ch;rw [if_pos h.1]
theorem xj : ∀ (o : List Part),tsz o<=frs o + tos o
 | []=>by simp [tsz]
 | p :: o => by
   have:=xj o;simp only [tsz,frs,tos]
   split<;>split<;>omega
theorem tJ {o : List Part} (h : bB o) : tsz o<=400:=by
 have h1:=xj o;have h2:=jc h;have h3:=nF h;have:=h.2;omega
theorem pt {a b : List Part} (ha : bB a) (hb : bB b) (h : bk a = bk b) : TInv a b:=by
 have h2:=jc hb;have h3:=jc ha;exact ⟨ha.1.1,hb.1.1,by omega⟩
open Classical in
noncomputable def aB (a b : List Part) : List Part × List Part × Bool:=
 if bB a/\bB b/\bk a = bk b then (if bB (normal (xf a b).1)/\bB (normal (xf a b).2) then (normal (xf a b).1,normal (xf a b).2,true) else ([],[],false)) else ([],[],false)
def cur (o : List Part) (i d : Nat) : List Part:=
 match o.drop i with
 | []=>[]
 | p :: l=>a9 p d :: l
theorem uQ {o : List Part} {i d : Nat} (h : o.length<=i) : cur o i d = []:=by unfold cur;rw [List.drop_eq_nil_of_le h]
theorem qW {o : List Part} {i d : Nat} (h : i < o.length) : cur o i d = a9 o[i] d :: o.drop (i + 1):=by unfold cur;rw [List.drop_eq_getElem_cons h]
theorem wH {o : List Part} {i : Nat} : cur o i 0 = o.drop i:=by
 unfold cur
 cases o.drop i with
 | nil=>rfl
 | cons p l=>simp [xF]
theorem E6 {o : List Part} (ho : ∀ p∈o,ao p) {i : Nat} (h : i < o.length) : nxt (cur o i (psz o[i])) = nxt (cur o (i + 1) 0):=by
 rw [qW h,wH];have:=gj (ho _ (List.getElem_mem h)) (Nat.le_refl _);simp [nxt,this]
theorem E5 {o : List Part} (ho : ∀ p∈o,ao p) {i d : Nat} (h : i < o.length) (hd : d < psz o[i]) : nxt (cur o i d) = cur o i d:=by
 rw [qW h];have:=gj (ho _ (List.getElem_mem h)) (Nat.le_of_lt hd);have h2 : ¬ psz (a9 o[i] d) = 0:=by omega
 simp [nxt,h2]
theorem E7 {o : List Part} {i d n : Nat} (h : i < o.length) {p : Part} {l : List Part} (hc : cur o i d = p :: l) : a9 p n :: l = cur o i (d + n):=by
 rw [qW h] at hc ⊢
 cases hc
 rw [vO]
theorem cc {k j : Nat} {o : AObj} {h : AH} (hne : j≠k) : AH.get ((k,o) :: h) j = AH.get h j:=if_neg hne
end Go.Proofs.YtoldjebobgocpaaGreat
