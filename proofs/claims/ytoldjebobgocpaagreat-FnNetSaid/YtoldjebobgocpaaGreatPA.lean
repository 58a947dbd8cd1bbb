import Derived.Test.YtoldjebobgocpaaGreatNA
import Derived.Test.YtoldjebobgocpaaGreatMF
namespace Go.Proofs.YtoldjebobgocpaaGreat
open Go.AM
set_option maxRecDepth 20000
theorem bm (n lo hi : Int) : aj Tryz.prog 112 [.c (vi n),.c (vi lo),.c (vi hi)] (.one (.c (vb (lo<=n/\n<=hi)) 1)):=by
 refine pci ae Tryz.func112 (λw0 base=>?_);by_cases h1 : lo<=n<;>by_cases h2 : n<=hi<;>simp [h1,h2]
theorem cl (n lo hi : Int) : aj Tryz.prog 67 [.c (vi n),.c (vi lo),.c (vi hi)] (.one (.c (vb (lo<=n/\n<=hi)) 1)):=by
 refine pci ae Tryz.func67 (λw0 base=>?_);by_cases h1 : lo<=n<;>by_cases h2 : n<=hi<;>simp [h1,h2]
def d9 (n : Int) : Prop:=(0<=n/\n<=1114111)/\¬ (55296<=n/\n<=57343)
def db (l : List Int) : Prop:=∀ n∈l,d9 n
theorem si (n : Int) : aj Tryz.prog 360 [.c (vi n)] (.one (.c (vb (d9 n)) 1)):=by
 refine pci ae Tryz.func360 (λw0 base=>?_);simp;refine aa.pure (bm n 0 1114111) (by simp) ?_;by_cases h : 0<=n/\n<=1114111
 ·simp [h]
  refine aa.pure (bm n 55296 57343) (by simp) ?_;by_cases h2 : 55296<=n/\n<=57343<;>simp [h2,d9,h]
  try (rw [gA];omega)
 ·have e : dc (0<=n/\n<=1114111) = false:=by rw [aC];exact h
  simp [d9,h]
theorem rU (n : Int) : aj Tryz.prog 359 [.c (vi n)] (.one (.c (vb (d9 n)) 1)):=by
 refine pci ae Tryz.func359 (λw0 base=>?_);simp;refine aa.pure (cl n 0 1114111) (by simp) ?_;by_cases h : 0<=n/\n<=1114111
 ·simp [h]
  refine aa.pure (cl n 55296 57343) (by simp) ?_;by_cases h2 : 55296<=n/\n<=57343<;>simp [h2,d9,h]
  try (rw [gA];omega)
 ·have e : dc (0<=n/\n<=1114111) = false:=by rw [aC];exact h
  simp [d9,h]
theorem iS {α : Type} {P : α->Prop} {l : List α} {i : Nat} (h : i < l.length) (ha : ∀ a∈l.take i,P a) (hi : P l[i]) : ∀ a∈l.take (i + 1),P a:=by
 rw [<- List.take_append_getElem h];intro a ha';rcases List.mem_append.1 ha' with h1 | h1
 ·exact ha a h1
 ·simp at h1;subst h1;exact hi
theorem kt {α : Type} {P : α->Prop} {l : List α} {i : Nat} (h : l.length<=i) (ha : ∀ a∈l.take i,P a) : ∀ a∈l,P a:=by
 rwa [List.take_of_length_le h] at ha
theorem oj {α : Type} {P : α->Prop} {l : List α} {i : Nat} (h : i < l.length) (hi : ¬ P l[i]) : ¬ ∀ a∈l,P a:=λha=>hi (ha _ (List.getElem_mem h))
theorem kN (l : List Int) (hl : l.length<=2 ^ 40) : aj Tryz.prog 298 [.c (.s (l.map aB))] (.one (.c (vb (db l)) 1)):=by
 refine pci ae Tryz.func298 (λw0 base=>?_);simp;refine aQ.intro eok (λi : Nat=>i<=l.length/\∀ n∈l.take i,d9 n) (λi=>⟨15,0,[(7,.v (.int .i64 i)),(6,.v (.int .i64 l.length)),(5,.ro (l.map aB))],[]⟩) (λi=>l.length - i) 0 (by simp) (by simp) (λi hi=>?_);by_cases h : i < l.length
 ·simp [h]
  refine aa.pure (si l[i]) (by simp) ?_;simp;refine Br.mk (λh1=>?_) (λh1=>?_)
  ·simp
   exact ⟨i + 1,⟨by omega,iS h hi.2 (iF h1)⟩,by omega,az (by omega)⟩
  ·simp [aC]
   exact oj h (lS h1)
 ·simp [h,gA]
  exact kt (by omega) hi.2
theorem kF (l : List Int) (hl : l.length<=2 ^ 40) : aj Tryz.prog 295 [.c (.s (l.map aB))] (.one (.c (vb (db l)) 1)):=by
 refine pci ae Tryz.func295 (λw0 base=>?_);simp;refine aQ.intro eok (λi : Nat=>i<=l.length/\∀ n∈l.take i,d9 n) (λi=>⟨15,0,[(7,.v (.int .i64 i)),(6,.v (.int .i64 l.length)),(5,.ro (l.map aB))],[]⟩) (λi=>l.length - i) 0 (by simp) (by simp) (λi hi=>?_);by_cases h : i < l.length
 ·simp [h]
  refine aa.pure (rU l[i]) (by simp) ?_;simp;refine Br.mk (λh1=>?_) (λh1=>?_)
  ·simp
   exact ⟨i + 1,⟨by omega,iS h hi.2 (iF h1)⟩,by omega,az (by omega)⟩
  ·simp [aC]
   exact oj h (lS h1)
 ·simp [h,gA]
  exact kt (by omega) hi.2
def ai (p : Part) : Prop:=((p.kind = 1\/p.kind = 3)/\(0<=p.n/\p.n<=200)/\p.signs = [])\/(p.kind = 2/\p.n = 0/\p.signs.length<=200/\db p.signs)
theorem nf {p : Part} (h : p.kind = 1\/p.kind = 3) : ai p = ((0<=p.n/\p.n<=200)/\p.signs = []):=by
 have h2 : ¬ p.kind = 2:=by omega
 simp [ai,h,h2]
theorem eG {p : Part} (h : p.kind = 2) : ai p = (p.n = 0/\p.signs.length<=200/\db p.signs):=by simp [ai,h]
theorem qZ {p : Part} (h1 : p.kind≠1) (h2 : p.kind≠2) (h3 : p.kind≠3) : ¬ ai p:=by simp [ai,h1,h2,h3]
theorem sr (p : Part) (hl : p.signs.length<=2 ^ 40) : aj Tryz.prog 297 [.agg p.row] (.one (.c (vb (ai p)) 1)):=by
 refine pci ae Tryz.func297 (λw0 base=>?_);simp [Part.row];intros;by_cases h13 : p.kind = 1\/p.kind = 3
 ·rw [nf h13]
  rcases h13 with h | h
  ·simp [h]
   refine aa.pure (bm p.n 0 200) (by simp) ?_;by_cases hn : 0<=p.n/\p.n<=200
   ·simp [hn]
   ·have e : dc (0<=p.n/\p.n<=200) = false:=by rw [aC];exact hn
    simp [hn]
  ·simp [h]
   refine aa.pure (bm p.n 0 200) (by simp) ?_;by_cases hn : 0<=p.n/\p.n<=200
   ·simp [hn]
   ·have e : dc (0<=p.n/\p.n<=200) = false:=by rw [aC];exact hn
    simp [hn]
 ·have h1 : ¬ p.kind = 1:=λh=>h13 (.inl h)
  have h3 : ¬ p.kind = 3:=λh=>h13 (.inr h)
  by_cases h2 : p.kind = 2
  ·rw [eG h2]
   simp [h2];by_cases hn : p.n = 0
   ·by_cases hs : p.signs.length<=200
    ·have hs' : (p.signs.length : Int)<=200:=by omega
     simp [hn,hs'];refine aa.pure (kN p.signs hl) (by simp) ?_;simp [hs]
    ·have hs' : ¬ (p.signs.length : Int)<=200:=by omega
     simp [hn,hs',hs]
   ·simp [hn]
  ·simp [h1,h2,h3,qZ]
theorem rW (p : Part) (hl : p.signs.length<=2 ^ 40) : aj Tryz.prog 294 [.agg p.row] (.one (.c (vb (ai p)) 1)):=by
 refine pci ae Tryz.func294 (λw0 base=>?_);simp [Part.row];intros;by_cases h13 : p.kind = 1\/p.kind = 3
 ·rw [nf h13]
  rcases h13 with h | h
  ·simp [h]
   refine aa.pure (cl p.n 0 200) (by simp) ?_;by_cases hn : 0<=p.n/\p.n<=200
   ·simp [hn]
   ·have e : dc (0<=p.n/\p.n<=200) = false:=by rw [aC];exact hn
    simp [hn]
  ·simp [h]
   refine aa.pure (cl p.n 0 200) (by simp) ?_;by_cases hn : 0<=p.n/\p.n<=200
   ·simp [hn]
   ·have e : dc (0<=p.n/\p.n<=200) = false:=by rw [aC];exact hn
    simp [hn]
 ·have h1 : ¬ p.kind = 1:=λh=>h13 (.inl h)
  have h3 : ¬ p.kind = 3:=λh=>h13 (.inr h)
  by_cases h2 : p.kind = 2
  ·rw [eG h2]
   simp [h2];by_cases hn : p.n = 0
   ·simp [hn]
    refine aa.pure (kF p.signs hl) (by simp) ?_;have e : ((p.signs.length : Int)<=200) = (p.signs.length<=200):=by simp;omega
    by_cases hg : db p.signs
    ·simp [hg,e]
    ·simp [hg]
   ·simp [hn]
  ·simp [h1,h2,h3,qZ]
def cJ (o : List Part) : Prop:=(∀ p∈o,ai p)/\o.length<=600
theorem kP (o : List Part) (hl : nL al o<=2 ^ 40) : aj Tryz.prog 213 [.c (.s (o.map Part.row))] (.one (.c (vb (cJ o)) 1)):=by
 refine pci ae Tryz.func213 (λw0 base=>?_);have hle:=bL hl;simp;refine aQ.intro eok (λi : Nat=>i<=o.length/\∀ p∈o.take i,ai p) (λi=>⟨18,0,[(7,.v (.int .i64 i)),(6,.v (.int .i64 o.length)),(5,.ro (o.map Part.row)),(0,.ro (o.map Part.row))],[]⟩) (λi=>o.length - i) 0 (by simp) (by simp) (λi hi=>?_);by_cases h : i < o.length
 ·simp [h,Part.row]
  intros;refine aa.pure (sr o[i] (jg hl h)) (by simp [Part.row]) ?_;simp;refine Br.mk (λh1=>?_) (λh1=>?_)
  ·simp
   exact ⟨i + 1,⟨by omega,iS h hi.2 (iF h1)⟩,by omega,az (by omega)⟩
  ·simp [aC]
   exact λhp=>oj h (lS h1) hp.1
 ·have ha:=kt (by omega) hi.2
  simp [h];refine gB ?_;unfold cJ;exact ⟨λh=>by have:=h.2;omega,λh=>⟨ha,by omega⟩⟩
theorem kI (o : List Part) (hl : nL al o<=2 ^ 40) : aj Tryz.prog 208 [.c (.s (o.map Part.row))] (.one (.c (vb (cJ o)) 1)):=by
 refine pci ae Tryz.func208 (λw0 base=>?_);have hle:=bL hl;simp;refine aQ.intro eok (λi : Nat=>i<=o.length/\∀ p∈o.take i,ai p) (λi=>⟨18,0,[(7,.v (.int .i64 i)),(6,.v (.int .i64 o.length)),(5,.ro (o.map Part.row)),(0,.ro (o.map Part.row))],[]⟩) (λi=>o.length - i) 0 (by simp) (by simp) (λi hi=>?_);by_cases h : i < o.length
 ·simp [h,Part.row]
  intros;refine aa.pure (rW o[i] (jg hl h)) (by simp [Part.row]) ?_;simp;refine Br.mk (λh1=>?_) (λh1=>?_)
  ·simp
   exact ⟨i + 1,⟨by omega,iS h hi.2 (iF h1)⟩,by omega,az (by omega)⟩
  ·simp [aC]
   exact λhp=>oj h (lS h1) hp.1
 ·have ha:=kt (by omega) hi.2
  simp [h];refine gB ?_;unfold cJ;exact ⟨λh=>by have:=h.2;omega,λh=>⟨ha,by omega⟩⟩
def bk (f : Part->Int) : List Part->Int
 | []=>0
 | p :: o=>f p + bk f o
theorem na {f : Part->Int} : ∀ (a b : List Part),bk f (a ++ b) = bk f a + bk f b
 | [],b=>by simp [bk]
 | p :: a,b=>by simp only [List.cons_append,bk,na a b];omega
theorem d6 {f : Part->Int} {o : List Part} {i : Nat} (h : i < o.length) : bk f (o.take (i + 1)) = bk f (o.take i) + f o[i]:=by
 rw [<- List.take_append_getElem h,na];simp [bk]
theorem dF {f g : Part->Int} : ∀ {o : List Part},(∀ p∈o,f p = g p)->bk f o = bk g o
 | [],_=>rfl
 | p :: o, h => by
   simp only [bk];rw [h p (List.mem_cons_self ..),dF (λq hq=>h q (List.mem_cons_of_mem _ hq))]
theorem gn {f g : Part->Int} : ∀ (o : List Part),bk (λp=>f p + g p) o = bk f o + bk g o
 | []=>by simp [bk]
 | p :: o=>by simp only [bk,gn o];omega
def fK (p : Part) : Int:=if p.kind = 1 then p.n else 0
def fP (p : Part) : Int:=if p.kind = 2 then p.signs.length else 0
def fD (p : Part) : Int:=if p.kind = 1 then 0 else if p.kind = 2 then 0 else p.n
def iP (k : Int) (p : Part) : Int:=if p.kind = k then 0 else p.n + p.signs.length
def fOf (k : Int) (p : Part) : Int:=if p.kind = k then p.n + p.signs.length else 0
theorem ai.bounds {p : Part} (h : ai p) : (p.kind = 1\/p.kind = 2\/p.kind = 3)/\0<=p.n/\p.n<=200/\p.signs.length<=200/\(p.kind = 2->p.n = 0)/\(p.kind≠2->p.signs = []):=by
 rcases h with ⟨h1,h2,h3⟩ | ⟨h1,h2,h3,h4⟩
 ·refine ⟨by omega,by omega,by omega,by simp [h3],by omega,λ_=>h3⟩
 ·refine ⟨by omega,by omega,by omega,h3,λ_=>h2,λh=>absurd h1 h⟩
theorem GL {p : Part} (h : ai p) : iP 2 p = fK p + fD p:=by
 obtain ⟨h1,h2,h3,h4,h5,h6⟩:=h.bounds;unfold iP fK fD;by_cases k2 : p.kind = 2
 ·simp [k2]
 ·by_cases k1 : p.kind = 1<;>simp [k1,k2,h6 k2]
theorem GK {p : Part} (h : ai p) : iP 3 p = fK p + fP p:=by
 obtain ⟨h1,h2,h3,h4,h5,h6⟩:=h.bounds;unfold iP fK fP;rcases h1 with k | k | k
 ·simp [k,h6 (by omega)]
 ·simp [k,h5 k]
 ·simp [k]
theorem of2 {p : Part} (h : ai p) : fOf 2 p = fP p:=by
 obtain ⟨h1,h2,h3,h4,h5,h6⟩:=h.bounds;unfold fOf fP;by_cases k : p.kind = 2
 ·simp [k,h5 k]
 ·simp [k]
theorem of3 {p : Part} (h : ai p) : fOf 3 p = fD p:=by
 obtain ⟨h1,h2,h3,h4,h5,h6⟩:=h.bounds;unfold fOf fD;rcases h1 with k | k | k
 ·simp [k]
 ·simp [k]
 ·simp [k,h6 (by omega)]
theorem cS {f : Part->Int} {B : Int} (hf : ∀ p,ai p->0<=f p/\f p<=B) : ∀ {o : List Part},(∀ p∈o,ai p)->0<=bk f o/\bk f o<=B * o.length
 | [],_=>by simp [bk]
 | p :: o, h => by
   have h1:=hf p (h p (List.mem_cons_self ..));have h2:=cS hf (o:=o) (λq hq=>h q (List.mem_cons_of_mem _ hq));simp only [bk,List.length_cons];rw [show B * ((o.length + 1 : Nat) : Int) = B * o.length + B by rw [Int.natCast_add];simp [Int.mul_add]];omega
theorem A9 {p : Part} (h : ai p) : 0<=fK p/\fK p<=200:=by have:=h.bounds;unfold fK;split<;>omega
theorem JR {p : Part} (h : ai p) : 0<=fP p/\fP p<=200:=by have:=h.bounds;unfold fP;split<;>omega
theorem Ba {p : Part} (h : ai p) : 0<=fD p/\fD p<=200:=by have:=h.bounds;unfold fD;split<;>(try split)<;>omega
theorem GC {k : Int} {p : Part} (h : ai p) : 0<=iP k p/\iP k p<=400:=by have:=h.bounds;unfold iP;split<;>omega
theorem JS {k : Int} {p : Part} (h : ai p) : 0<=fOf k p/\fOf k p<=400:=by have:=h.bounds;unfold fOf;split<;>omega
theorem iz {o : List Part} (h : ∀ p∈o,ai p) (i : Nat) : ∀ p∈o.take i,ai p:=λp hp=>h p (List.mem_of_mem_take hp)
theorem Ab (p : Part) (hp : ai p) : aj Tryz.prog 328 [.agg p.row] (.one (.c (vi (p.n + p.signs.length)) 1)):=by
 refine pci ae Tryz.func328 (λw0 base=>?_);have:=hp.bounds;have e : Go.IntKind.i64.wrap (p.n + (p.signs.length : Int)) = p.n + p.signs.length:=Go.IntWalk.i64_in _ (by omega);simp [Part.row,e]
open Classical in
noncomputable def sizeOf (o : List Part) (k : Int) : Int:=if cJ o then bk (iP k) o else 0
theorem me (o : List Part) (hl : nL al o<=2 ^ 40) (k : Int) : aj Tryz.prog 331 [.c (.s (o.map Part.row)),.c (vi k)] (.one (.c (vi (sizeOf o k)) 1)):=by
 refine pci ae Tryz.func331 (λw0 base=>?_);have hle:=bL hl;simp;refine aa.pure (kP o hl) (by simp) ?_;by_cases ho : cJ o
 ·have hr : sizeOf o k = bk (iP k) o:=by unfold sizeOf;rw [if_pos ho]
  simp [ho,hr];refine aQ.intro eok (λi : Nat=>i<=o.length) (λi=>⟨27,0,[(13,.v (.int .i64 i)),(12,.v (.int .i64 o.length)),(11,.ro (o.map Part.row)),(5,.v (.int .i64 (bk (iP k) (o.take i)))),(1,.v (.int .i64 k))],[]⟩) (λi=>o.length - i) 0 (by simp) (by simp [bk]) (λi hi=>?_);by_cases h : i < o.length
  ·have hp:=ho.1 _ (List.getElem_mem h)
   have hb:=cS (f:=iP k) (λp h=>GC h) (iz ho.1 i);have hb2:=hp.bounds;have hlen:=ho.2;have hlt : (o.take i).length<=600:=by simp;omega
   have hs:=d6 (f:=iP k) h;obtain ⟨q,hq⟩ : ∃ q,bk (iP k) (o.take i) = q:=⟨_,rfl⟩;have e : Go.IntKind.i64.wrap ((i : Int) + 1) = ((i + 1 : Nat) : Int):=az (by omega);rw [hq] at hs hb;simp [h,Part.row,hq];intros;by_cases hk : o[i].kind = k
   ·simp [hk]
    refine ⟨i + 1,by omega,by omega,e,?_⟩;rw [hs];simp [iP,hk]
   ·simp [hk]
    refine aa.pure (Ab o[i] hp) (by simp [Part.row]) ?_;have e2 : Go.IntKind.i64.wrap (q + (o[i].n + (o[i].signs.length : Int))) = q + (o[i].n + o[i].signs.length):=Go.IntWalk.i64_in _ (by omega);simp [e2];refine ⟨i + 1,by omega,by omega,e,?_⟩;rw [hs];simp [iP,hk]
  ·simp [h]
   rw [List.take_of_length_le (by omega)]
 ·have e : dc (cJ o) = false:=by rw [aC];exact ho
  have hr : sizeOf o k = 0:=by unfold sizeOf;rw [if_neg ho]
  simp [e,hr]
open Classical in
noncomputable def bu (o : List Part) : Int × Int × Int:=if cJ o then (bk fK o,bk fP o,bk fD o) else (0,0,0)
theorem mc (o : List Part) (hl : nL al o<=2 ^ 40) : aj Tryz.prog 325 [.c (.s (o.map Part.row))] (.tup [.c (vi (bu o).1) 1,.c (vi (bu o).2.1) 1,.c (vi (bu o).2.2) 1]):=by
 refine pci ae Tryz.func325 (λw0 base=>?_);have hle:=bL hl;simp;refine aa.pure (kI o hl) (by simp) ?_;by_cases ho : cJ o
 ·have hr : bu o = (bk fK o,bk fP o,bk fD o):=by unfold bu;rw [if_pos ho]
  simp [ho,hr];refine aQ.intro eok (λi : Nat=>i<=o.length) (λi=>⟨42,0,[(15,.v (.int .i64 i)),(14,.v (.int .i64 o.length)),(13,.ro (o.map Part.row)),(5,.v (.int .i64 (bk fK (o.take i)))),(6,.v (.int .i64 (bk fP (o.take i)))),(7,.v (.int .i64 (bk fD (o.take i))))],[]⟩) (λi=>o.length - i) 0 (by simp) (by simp [bk]) (λi hi=>?_);by_cases h : i < o.length
  ·have hp:=ho.1 _ (List.getElem_mem h)
   have hb1:=cS (f:=fK) (λp h=>A9 h) (iz ho.1 i);have hb2:=cS (f:=fP) (λp h=>JR h) (iz ho.1 i);have hb3:=cS (f:=fD) (λp h=>Ba h) (iz ho.1 i);have hpb:=hp.bounds;have hlen:=ho.2;have hlt : (o.take i).length<=600:=by simp;omega
   have hs1:=d6 (f:=fK) h;have hs2:=d6 (f:=fP) h;have hs3:=d6 (f:=fD) h;obtain ⟨q1,hq1⟩ : ∃ q,bk fK (o.take i) = q:=⟨_,rfl⟩;obtain ⟨q2,hq2⟩ : ∃ q,bk fP (o.take i) = q:=⟨_,rfl⟩;obtain ⟨q3,hq3⟩ : ∃ q,bk fD (o.take i) = q:=⟨_,rfl⟩;have e : Go.IntKind.i64.wrap ((i : Int) + 1) = ((i + 1 : Nat) : Int):=az (by omega);rw [hq1] at hs1 hb1;rw [hq2] at hs2 hb2;rw [hq3] at hs3 hb3;simp [h,Part.row,hq1,hq2,hq3];intros;have e1 : Go.IntKind.i64.wrap (q1 + o[i].n) = q1 + o[i].n:=Go.IntWalk.i64_in _ (by omega);have e2 : Go.IntKind.i64.wrap (q2 + (o[i].signs.length : Int)) = q2 + o[i].signs.length:=Go.IntWalk.i64_in _ (by omega);have e3 : Go.IntKind.i64.wrap (q3 + o[i].n) = q3 + o[i].n:=Go.IntWalk.i64_in _ (by omega);by_cases k1 : o[i].kind = 1
   ·simp [k1,e1]
    refine ⟨i + 1,by omega,by omega,e,?_,?_,?_⟩
    ·rw [hs1];simp [fK,k1]
    ·rw [hs2];simp [fP,k1]
    ·rw [hs3];simp [fD,k1]
   ·by_cases k2 : o[i].kind = 2
    ·simp [k2,e2]
     refine ⟨i + 1,by omega,by omega,e,?_,?_,?_⟩
     ·rw [hs1];simp [fK,k2]
     ·rw [hs2];simp [fP,k2]
     ·rw [hs3];simp [fD,k2]
    ·simp [k1,k2,e3]
     refine ⟨i + 1,by omega,by omega,e,?_,?_,?_⟩
     ·rw [hs1];simp [fK,k1]
     ·rw [hs2];simp [fP,k2]
     ·rw [hs3];simp [fD,k1,k2]
  ·simp [h]
   rw [List.take_of_length_le (by omega)];simp
 ·have e : dc (cJ o) = false:=by rw [aC];exact ho
  have hr : bu o = (0,0,0):=by unfold bu;rw [if_neg ho]
  simp [e,hr]
noncomputable def aD (o : List Part) : Int:=(bu o).1 + (bu o).2.2
noncomputable def cA (o : List Part) : Int:=(bu o).1 + (bu o).2.1
theorem tT (o : List Part) : sizeOf o 2 = aD o:=by
 unfold sizeOf aD bu
 split
 ·rename_i h
  show _ = bk fK o + bk fD o
  rw [<- gn];exact dF (λp hp=>GL (h.1 p hp))
 ·rfl
theorem xF (o : List Part) : sizeOf o 3 = cA o:=by
 unfold sizeOf cA bu
 split
 ·rename_i h
  show _ = bk fK o + bk fP o
  rw [<- gn];exact dF (λp hp=>GK (h.1 p hp))
 ·rfl
theorem ud (o : List Part) : (0<=(bu o).1/\(bu o).1<=120000)/\(0<=(bu o).2.1/\(bu o).2.1<=120000)/\0<=(bu o).2.2/\(bu o).2.2<=120000:=by
 unfold bu
 split
 ·rename_i h
  have h1:=cS (f:=fK) (λp h=>A9 h) h.1;have h2:=cS (f:=fP) (λp h=>JR h) h.1;have h3:=cS (f:=fD) (λp h=>Ba h) h.1;have h4:=h.2;simp only;omega
 ·simp
theorem df (o : List Part) (hl : nL al o<=2 ^ 40) : aj Tryz.prog 253 [.c (.s (o.map Part.row))] (.one (.c (vi (aD o)) 1)):=by
 refine pci ae Tryz.func253 (λw0 base=>?_);simp;refine aa.pure (me o hl 2) (by simp) ?_;simp [tT]
theorem iI (o : List Part) (hl : nL al o<=2 ^ 40) : aj Tryz.prog 245 [.c (.s (o.map Part.row))] (.one (.c (vi (cA o)) 1)):=by
 refine pci ae Tryz.func245 (λw0 base=>?_);simp;refine aa.pure (me o hl 3) (by simp) ?_;simp [xF]
theorem cI (o : List Part) (hl : nL al o<=2 ^ 40) : aj Tryz.prog 387 [.c (.s (o.map Part.row))] (.one (.c (vi (aD o)) 1)):=by
 refine pci ae Tryz.func387 (λw0 base=>?_);simp;refine aa.pure (mc o hl) (by simp) ?_;have:=ud o;have e : Go.IntKind.i64.wrap ((bu o).1 + (bu o).2.2) = aD o:=Go.IntWalk.i64_in _ (by omega);simp [e]
theorem fo (o : List Part) (hl : nL al o<=2 ^ 40) : aj Tryz.prog 240 [.c (.s (o.map Part.row))] (.one (.c (vi (cA o)) 1)):=by
 refine pci ae Tryz.func240 (λw0 base=>?_);simp;refine aa.pure (mc o hl) (by simp) ?_;have:=ud o;have e : Go.IntKind.i64.wrap ((bu o).1 + (bu o).2.1) = cA o:=Go.IntWalk.i64_in _ (by omega);simp [e]
def aH (o : List Part) : Prop:=cJ o/\aD o<=200/\cA o<=200
theorem bT (o : List Part) (hl : nL al o<=2 ^ 40) : aj Tryz.prog 255 [.c (.s (o.map Part.row))] (.one (.c (vb (aH o)) 1)):=by
 refine pci ae Tryz.func255 (λw0 base=>?_);simp;refine aa.pure (kP o hl) (by simp) ?_;by_cases h : cJ o
 ·simp [h]
  refine aa.pure (df o hl) (by simp) ?_;by_cases h1 : aD o<=200
  ·simp [h1]
   refine aa.pure (iI o hl) (by simp) ?_;simp [aH,h,h1]
  ·simp [h1,aH,h]
 ·simp [h,aH]
theorem bJ (o : List Part) (hl : nL al o<=2 ^ 40) : aj Tryz.prog 382 [.c (.s (o.map Part.row))] (.one (.c (vb (aH o)) 1)):=by
 refine pci ae Tryz.func382 (λw0 base=>?_);simp;refine aa.pure (kI o hl) (by simp) ?_;by_cases h : cJ o
 ·simp [h]
  refine aa.pure (cI o hl) (by simp) ?_;by_cases h1 : aD o<=200
  ·simp [h1]
   refine aa.pure (fo o hl) (by simp) ?_;simp [aH,h,h1]
  ·simp [h1,aH,h]
 ·simp [h,aH]
def au (L : List Part) (P : List Int) (D : Int) : List Part:=L ++ ((if P = [] then [] else [⟨2,0,P⟩]) ++ (if 0 < D then [⟨3,D,[]⟩] else []))
def aZ (L : List Part) (n : Int) : List Part:=
 if h : 0 < L.length then
  if (L[L.length - 1]'(by omega)).kind = 1 then L.set (L.length - 1) ⟨1,(L[L.length - 1]'(by omega)).n + n,(L[L.length - 1]'(by omega)).signs⟩ else L ++ [⟨1,n,[]⟩]
 else [⟨1,n,[]⟩]
def bP (s : List Part × List Int × Int) (p : Part) : List Part × List Int × Int:=
 if p.kind = 2 then (s.1,s.2.1 ++ p.signs,s.2.2)
 else if p.kind = 3 then (s.1,s.2.1,s.2.2 + p.n)
 else if 0 < p.n then (aZ (au s.1 s.2.1 s.2.2) p.n,[],0) else s
def aJ (o : List Part) : List Part × List Int × Int:=o.foldl bP ([],[],0)
def normal (o : List Part) : List Part:=au (aJ o).1 (aJ o).2.1 (aJ o).2.2
theorem eK {o : List Part} {i : Nat} (h : i < o.length) : aJ (o.take (i + 1)) = bP (aJ (o.take i)) o[i]:=by
 unfold aJ;rw [<- List.take_append_getElem h,List.foldl_append];rfl
structure NbOk (m : Nat) (s : List Part × List Int × Int) : Prop where
 l : s.1.length<=3 * m
 p : s.2.1.length<=200 * m
 d0 : 0<=s.2.2
 d : s.2.2<=200 * m
 q : ∀ q∈s.1,0<=q.n/\q.n<=200 * m
theorem ee (L : List Part) (P : List Int) (D : Int) : (au L P D).length<=L.length + 2:=by
 unfold au
 split<;>split<;>simp
theorem el {L : List Part} {P : List Int} {D B : Int} (h0 : 0<=D) (hD : D<=B) (hL : ∀ q∈L,0<=q.n/\q.n<=B) : ∀ q∈au L P D,0<=q.n/\q.n<=B:=by
 intro q hq;unfold au at hq;simp only [List.mem_append] at hq;rcases hq with hq | hq | hq
 ·exact hL q hq
 ·split at hq
  ·simp at hq
  ·simp at hq;subst hq;simp;omega
 ·split at hq
  ·simp at hq;subst hq;simp;omega
  ·simp at hq
theorem ib {o : List Part} (ho : ∀ p∈o,ai p) : ∀ (i : Nat),i<=o.length->NbOk i (aJ (o.take i))
 | 0, _ => by
   simp [aJ];exact ⟨by simp,by simp,by simp,by simp,by simp⟩
 | i + 1, hi => by
   have ih:=ib ho i (by omega);have hlt : i < o.length:=by omega
   rw [eK hlt];have hp:=(ho _ (List.getElem_mem hlt)).bounds;generalize aJ (o.take i) = s at ih;generalize o[i] = p at hp;obtain ⟨L,P,D⟩:=s;obtain ⟨h1,h2,h3,h4,h5⟩:=ih;simp only at h1 h2 h3 h4 h5;have w : ∀ q∈L,0<=q.n/\q.n<=200 * ((i + 1 : Nat) : Int):=λq hq=>by have:=h5 q hq;omega
   unfold bP
   split
   ·exact ⟨by simp;omega,by simp;omega,h3,by simp;omega,w⟩
   ·split
    ·exact ⟨by simp;omega,by simp;omega,by simp;omega,by simp;omega,w⟩
    ·split
     ·have f1:=ee L P D
      have f2:=el (P:=P) h3 h4 h5;refine ⟨?_,by simp,by simp,by simp;omega,?_⟩
      ·simp only [aZ]
       split
       ·split<;>simp<;>omega
       ·simp;omega
      ·simp only [aZ]
       intro q hq
       split at hq
       ·split at hq
        ·rcases List.mem_or_eq_of_mem_set hq with hq | rfl
         ·have:=f2 q hq;omega
         ·have:=f2 _ (List.getElem_mem (show (au L P D).length - 1 < (au L P D).length by omega))
          simp only;omega
        ·rcases List.mem_append.1 hq with hq | hq
         ·have:=f2 q hq;omega
         ·simp at hq;subst hq;simp;omega
       ·simp at hq;subst hq;simp;omega
     ·exact ⟨by simp;omega,by simp;omega,h3,by simp;omega,w⟩
theorem jN {L : List Part} {P : List Int} {D : Int} (hP : ¬ P = []) (hD : 0 < D) : au L P D = L ++ [⟨2,0,P⟩] ++ [⟨3,D,[]⟩]:=by simp [au,hP,hD]
theorem jM {L : List Part} {P : List Int} {D : Int} (hP : ¬ P = []) (hD : ¬ 0 < D) : au L P D = L ++ [⟨2,0,P⟩]:=by simp [au,hP,hD]
theorem jL {L : List Part} {P : List Int} {D : Int} (hP : P = []) (hD : 0 < D) : au L P D = L ++ [⟨3,D,[]⟩]:=by simp [au,hP,hD]
theorem jK {L : List Part} {P : List Int} {D : Int} (hP : P = []) (hD : ¬ 0 < D) : au L P D = L:=by simp [au,hP,hD]
theorem jI {w0 : World} {bF bG : Nat->Prop} {bl : Bool} {st : ASt} {dst : Option Nat} {K : ASt->Prop} {L : List Part} {P : List Int} {D : Int} {b3 b4 b5 : Nat} {Hl Hp : Hd} (hL : L.length<=2 ^ 20) (_hP : P.length<=2 ^ 40)
 (g48 : st.h.get 48 = .vars b3 63 [.sl 5000 Hl 3 0 L.length]) (g64 : st.h.get 64 = .vars b4 26 [.sl 5001 Hp 1 0 P.length]) (g80 : st.h.get 80 = .vars b5 3 [.v (.int .i64 D)])
 (g5000 : st.h.get 5000 = .rows Hl 3 (L.map Part.row) true) (g5001 : st.h.get 5001 = .rows Hp 1 (P.map aB) true)
 (hK : ∀ Hl' h',AH.get h' 48 = .vars b3 63 [.sl 5000 Hl' 3 0 (au L P D).length] -> AH.get h' 5000 = .rows Hl' 3 ((au L P D).map Part.row) true -> AH.get h' 64 = .vars b4 26 [.nil] -> AH.get h' 80 = .vars b5 3 [.v (.int .i64 0)] ->
  AH.get h' 128 = st.h.get 128->aM ⟨st.n,st.kb,st.t,h'⟩ dst (.tup []) K) : aa ⟨Tryz.prog,tt,w0,⟨bF,bG,bl,λ_=>True⟩⟩ 374 [.p 64 b4 0,.p 48 b3 0,.p 80 b5 0] st dst K:=by
 refine inl ae Tryz.func374 20000 (λw1 F=>?_);simp [g64];by_cases hp : P = []
 ·have hp0 : ¬ 0 < P.length:=by simp [hp]
  simp [hp0,g80];by_cases hd : 0 < D
  ·simp [hd,g48,g5000,g80,g64]
   intro b;refine ⟨by omega,λH=>hK H _ ?_ ?_ ?_ ?_ ?_⟩<;>simp [jL hp hd,Part.row]
  ·simp [hd,g80,g64]
   refine hK Hl _ ?_ ?_ ?_ ?_ ?_<;>simp [jK hp hd,g48,g5000]
 ·have hp0 : 0 < P.length:=List.length_pos_iff.2 hp
  simp [hp0,g80,g48,g5000,g5001,g64];intro b;refine ⟨by omega,λH=>?_⟩;by_cases hd : 0 < D
  ·simp [hd,g80,g64]
   intro b2;refine ⟨by omega,λH2=>hK H2 _ ?_ ?_ ?_ ?_ ?_⟩<;>simp [jN hp hd,Part.row]
  ·simp [hd,g80,g64]
   refine hK H _ ?_ ?_ ?_ ?_ ?_<;>simp [jM hp hd,Part.row]
theorem gr {F : List Part} {m : Nat} (h : m < F.length) {g : List CD->List CD} {p : Part} (hg : g F[m].row = p.row) : (F.map Part.row).modify m g = (F.set m p).map Part.row:=by
 apply List.ext_getElem?
 intro j;rw [List.getElem?_modify];simp only [List.getElem?_map,List.getElem?_set];by_cases hj : m = j
 ·subst hj
  simp [h,hg]
 ·simp [hj]
theorem lV (o : List Part) (ho : ∀ p∈o,ai p) (hl : o.length<=10000) : aj Tryz.prog 330 [.c (.s (o.map Part.row))] (.one (.c (.s ((normal o).map Part.row)) 3)):=by
 refine pci ae Tryz.func330 (λw0 base=>?_);simp;intro b3 b4 b5
 refine aw eok (λx : Nat × Hd × Hd=>x.1<=o.length) (λx=>⟨73,0,[(13,.v (.int .i64 x.1)),(12,.v (.int .i64 o.length)),(11,.ro (o.map Part.row)),(3,.p 48 b3 0),(4,.p 64 b4 0),(5,.p 80 b5 0),(6,.clo 374 [.p 64 b4 0,.p 48 b3 0,.p 80 b5 0])],
  [(48, .vars b3 63 [.sl 5000 x.2.1 3 0 (aJ (o.take x.1)).1.length]), (64, .vars b4 26 [.sl 5001 x.2.2 1 0 (aJ (o.take x.1)).2.1.length]), (80, .vars b5 3 [.v (.int .i64 (aJ (o.take x.1)).2.2)]),
   (5000,.rows x.2.1 3 ((aJ (o.take x.1)).1.map Part.row) true),(5001,.rows x.2.2 1 ((aJ (o.take x.1)).2.1.map aB) true)]⟩) (λx=>o.length - x.1) (0,none,none) (by simp) (by simp [aJ]) (λx hx=>Ent.refl ?_)
 obtain ⟨i,Hl,Hp⟩:=x;simp only at hx ⊢;have hok:=ib ho i hx;by_cases h : i < o.length
 ·have hs:=eK h
  have hpb:=(ho _ (List.getElem_mem h)).bounds;generalize aJ (o.take i) = s at hok hs;obtain ⟨L,P,D⟩:=s;obtain ⟨k1,k2,k3,k4,k5⟩:=hok;simp only at k1 k2 k3 k4 k5;have e : Go.IntKind.i64.wrap ((i : Int) + 1) = ((i + 1 : Nat) : Int):=az (by omega);simp [h,Part.row];intro b8;by_cases c2 : o[i].kind = 2
  ·simp [c2]
   refine ⟨by omega,λH=>?_⟩;refine Ent.refl ⟨i + 1,by omega,by omega,Hl,H,?_⟩;rw [hs];simp [bP,c2,e]
  ·by_cases c3 : o[i].kind = 3
   ·have e3 : Go.IntKind.i64.wrap (D + o[i].n) = D + o[i].n:=Go.IntWalk.i64_in _ (by omega)
    simp [c3,e3];refine Ent.refl ⟨i + 1,by omega,by omega,Hl,Hp,?_⟩;rw [hs];simp [bP,c3,e]
   ·by_cases cn : 0 < o[i].n
    ·simp [c2,c3,cn]
     refine jI (L:=L) (P:=P) (D:=D) (Hl:=Hl) (Hp:=Hp) (by omega) (by omega) (by simp) (by simp) (by simp) (by simp) (by simp) (λHl' h' g48 g5000 g64 g80 g128=>?_);have f1:=ee L P D;have f2:=el (P:=P) k3 k4 k5;have hstep : bP (L,P,D) o[i] = (aZ (au L P D) o[i].n,[],0):=by simp [bP,c2,c3,cn]
     rw [hstep] at hs;generalize au L P D = F at f1 f2 g48 g5000 hs;simp at g128;by_cases hF : 0 < F.length
     ·obtain ⟨m,hm⟩ : ∃ m,F.length = m + 1:=⟨F.length - 1,by omega⟩
      have hmlt : m < F.length:=by omega
      have em : Go.IntKind.i64.wrap (m : Int) = m:=iK (by omega)
      have hk : aZ F o[i].n = if F[m].kind = 1 then F.set m ⟨1,F[m].n + o[i].n,F[m].signs⟩ else F ++ [⟨1,o[i].n,[]⟩]:=by
       have e0 : F.length - 1 = m:=by omega
       simp [aZ,hF,e0]
      have hq:=f2 _ (List.getElem_mem hmlt);simp [g48,g5000,hm,em,Part.row];by_cases ck : F[m].kind = 1
      ·rw [if_pos ck] at hk
       have em2 : Go.IntKind.i64.wrap (F[m].n + o[i].n) = F[m].n + o[i].n:=Go.IntWalk.i64_in _ (by omega);have hmm : (m : Int) < m + 1:=by omega
       simp [ck,hmm];refine drw eok mix [0,1,2,3,4,5,6,7,8,9,10] [11] (.c 11 11 2045 2 (.l 11 2) .s) ?_;simp [g48,g5000,g128,hm,em,Part.row,ck,em2,hmm];refine Ent.kill 5001 (Ent.refl ⟨i + 1,by omega,by omega,Hl',none,?_⟩);rw [hs,hk];have hmod:=gr (F:=F) (m:=m) hmlt (g:=λrow=>dT row 1 [CD.v (Value.int IntKind.i64 (F[m].n + o[i].n))]) (p:=⟨1,F[m].n + o[i].n,F[m].signs⟩) (by simp [Part.row,ck]);simp [e,g48,g64,g80,hm,hmod]
      ·rw [if_neg ck] at hk
       simp [ck,g48,g5000,g128,hm];refine ⟨by omega,λb=>⟨by omega,λH=>?_⟩⟩;refine Ent.kill 5001 (Ent.refl ⟨i + 1,by omega,by omega,H,none,?_⟩);rw [hs,hk];simp [e,Part.row,g64,g80,hm]
     ·have hF0 : F = []:=List.eq_nil_of_length_eq_zero (by omega)
      subst hF0;have hk : aZ [] o[i].n = [⟨1,o[i].n,[]⟩]:=by simp [aZ]
      simp [g48,g5000,g128];intro b H;refine Ent.kill 5001 (Ent.refl ⟨i + 1,by omega,by omega,H,none,?_⟩);rw [hs,hk];simp [e,Part.row,g64,g80]
    ·simp [c2,c3,cn]
     refine Ent.refl ⟨i + 1,by omega,by omega,Hl,Hp,?_⟩;rw [hs];simp [bP,c2,c3,cn,e]
 ·have he : o.take i = o:=List.take_of_length_le (by omega)
  rw [he] at hok ⊢;have hn : normal o = au (aJ o).1 (aJ o).2.1 (aJ o).2.2:=rfl;rw [hn];generalize aJ o = s at hok;obtain ⟨L,P,D⟩:=s;obtain ⟨k1,k2,k3,k4,k5⟩:=hok;simp only at k1 k2 k3 k4 k5;simp [h];refine jI (L:=L) (P:=P) (D:=D) (Hl:=Hl) (Hp:=Hp) (by omega) (by omega) (by simp) (by simp) (by simp) (by simp) (by simp) (λHl' h' g48 g5000 g64 g80 g128=>?_);simp [g48,g5000]
theorem jt {w0 : World} {bF bG : Nat->Prop} {bl : Bool} {st : ASt} {dst : Option Nat} {K : ASt->Prop} {L : List Part} {P : List Int} {D : Int} {b : Nat} {Hl Hp : Hd} (hL : L.length<=2 ^ 20) (_hP : P.length<=2 ^ 40)
 (g160 : st.h.get 160 = .vars b 363 [.sl 5000 Hl 3 0 L.length,.sl 5001 Hp 1 0 P.length,.v (.int .i64 D)])
 (g5000 : st.h.get 5000 = .rows Hl 3 (L.map Part.row) true) (g5001 : st.h.get 5001 = .rows Hp 1 (P.map aB) true)
 (hK : ∀ Hl' h',AH.get h' 160 = .vars b 363 [.sl 5000 Hl' 3 0 (au L P D).length,.nil,.v (.int .i64 0)] -> AH.get h' 5000 = .rows Hl' 3 ((au L P D).map Part.row) true ->
  AH.get h' 80 = st.h.get 80->aM ⟨st.n,st.kb,st.t,h'⟩ dst (.tup []) K) : aa ⟨Tryz.prog,tt,w0,⟨bF,bG,bl,λ_=>True⟩⟩ 408 [.p 160 b 0] st dst K:=by
 refine inl ae Tryz.func408 20000 (λw1 F=>?_);simp [g160];by_cases hp : P = []
 ·have hp0 : ¬ 0 < P.length:=by simp [hp]
  simp [hp0,g160];by_cases hd : 0 < D
  ·simp [hd]
   refine drw eok mix [0,1,2,3,4,5,6,7,8,9,12,13] [10,11,14] (.c 12 10 4 4091 (.c 12 11 128 3963 (.c 12 14 3961 2 (.l 12 2) .s) .s) .s) ?_;simp [g160,g5000];intro b1;refine ⟨by omega,λH=>hK H _ ?_ ?_ ?_⟩<;>simp [jL hp hd,Part.row]
  ·simp [hd,g160]
   refine hK Hl _ ?_ ?_ ?_<;>simp [jK hp hd,g5000]
 ·have hp0 : 0 < P.length:=List.length_pos_iff.2 hp
  simp [hp0];refine drw eok mix [0,1,2,3,4,5,6,7,8,9,12,13] [10,11,14] (.c 12 10 4 4091 (.c 12 11 128 3963 (.c 12 14 3961 2 (.l 12 2) .s) .s) .s) ?_;simp [g160,g5000,g5001];intro b1;refine ⟨by omega,λH=>?_⟩;by_cases hd : 0 < D
  ·simp [hd]
   refine drw eok mix [0,1,2,3,4,5,6,7,8,9,12,13] [10,11,14] (.c 12 10 4 4091 (.c 12 11 128 3963 (.c 12 14 3961 2 (.l 12 2) .s) .s) .s) ?_;simp;intro b2;refine ⟨by omega,λH2=>hK H2 _ ?_ ?_ ?_⟩<;>simp [jN hp hd,Part.row]
  ·simp [hd]
   refine hK H _ ?_ ?_ ?_<;>simp [jM hp hd,Part.row]
theorem pY {w0 : World} {bF bG : Nat->Prop} {bl : Bool} {st : ASt} {dst : Option Nat} {K : ASt->Prop} {L : List Part} {P : List Int} {D n : Int} {b : Nat} {Hl Hp : Hd} (hL : L.length<=2 ^ 19) (hP : P.length<=2 ^ 40) (hn0 : 0 < n) (hn : n<=200) (hF : ∀ q∈au L P D,0<=q.n/\q.n<=2 ^ 40)
 (g160 : st.h.get 160 = .vars b 363 [.sl 5000 Hl 3 0 L.length,.sl 5001 Hp 1 0 P.length,.v (.int .i64 D)])
 (g5000 : st.h.get 5000 = .rows Hl 3 (L.map Part.row) true) (g5001 : st.h.get 5001 = .rows Hp 1 (P.map aB) true)
 (hK : ∀ Hl' h',AH.get h' 160 = .vars b 363 [.sl 5000 Hl' 3 0 (aZ (au L P D) n).length,.nil,.v (.int .i64 0)] -> AH.get h' 5000 = .rows Hl' 3 ((aZ (au L P D) n).map Part.row) true ->
  AH.get h' 80 = st.h.get 80->aM ⟨st.n,st.kb,st.t,h'⟩ dst (.tup []) K) : aa ⟨Tryz.prog,tt,w0,⟨bF,bG,bl,λ_=>True⟩⟩ 397 [.p 160 b 0,.v (.int .i64 n)] st dst K:=by
 refine inl ae Tryz.func397 30000 (λw1 F=>?_);have n0 : ¬ n = 0:=by omega
 simp [n0];refine jt (L:=L) (P:=P) (D:=D) (Hl:=Hl) (Hp:=Hp) (by omega) hP (by simp [g160]) (by simp [g5000]) (by simp [g5001]) (λHl' h' k160 k5000 k80=>?_);have f1:=ee L P D;generalize au L P D = F at f1 hF k160 k5000 hK;by_cases hF0 : 0 < F.length
 ·obtain ⟨m,hm⟩ : ∃ m,F.length = m + 1:=⟨F.length - 1,by omega⟩
  have hmlt : m < F.length:=by omega
  have hmm : (m : Int) < m + 1:=by omega
  have em : Go.IntKind.i64.wrap (m : Int) = m:=iK (by omega)
  have hk : aZ F n = if F[m].kind = 1 then F.set m ⟨1,F[m].n + n,F[m].signs⟩ else F ++ [⟨1,n,[]⟩]:=by
   have e0 : F.length - 1 = m:=by omega
   simp [aZ,hF0,e0]
  have hq:=hF _ (List.getElem_mem hmlt);have em2 : Go.IntKind.i64.wrap (F[m].n + n) = F[m].n + n:=Go.IntWalk.i64_in _ (by omega);simp [k160,k5000,hm,em,hmm,Part.row];by_cases ck : F[m].kind = 1
  ·rw [if_pos ck] at hk
   simp [ck];refine drw eok mix [0,1,2,3,4,5,6,7,8,9,10,11,12,13,14,15,16,17,18] [19] (.c 19 19 524285 2 (.l 19 2) .s) ?_;simp [k160,k5000,hm,em,hmm,Part.row,ck,em2];have hmod:=gr (F:=F) (m:=m) hmlt (g:=λrow=>dT row 1 [CD.v (Value.int IntKind.i64 (F[m].n + n))]) (p:=⟨1,F[m].n + n,F[m].signs⟩) (by simp [Part.row,ck]);refine hK Hl' _ ?_ ?_ ?_
   ·simp [k160,hk,hm]
   ·simp [hk,hmod]
   ·simp [k80]
  ·rw [if_neg ck] at hk
   simp [ck,k160,k5000,hm];intro b1;refine ⟨by omega,λH=>hK H _ ?_ ?_ ?_⟩<;>simp [hk,hm,Part.row,k80]
 ·have hF1 : F = []:=List.eq_nil_of_length_eq_zero (by omega)
  subst hF1;have hk : aZ [] n = [⟨1,n,[]⟩]:=by simp [aZ]
  simp [k160,k5000];intro b1 H;refine hK H _ ?_ ?_ ?_<;>simp [hk,Part.row,k80]
open Classical in
noncomputable def ba (o : List Part) : List Part:=if aH o then normal o else []
theorem mf (o : List Part) (hl : nL al o<=2 ^ 40) : aj Tryz.prog 336 [.c (.s (o.map Part.row))] (.one (.c (.s ((ba o).map Part.row)) 3)):=by
 refine pci ae Tryz.func336 (λw0 base=>?_);simp;refine aa.pure (bT o hl) (by simp) ?_;by_cases h : aH o
 ·have e : ba o = normal o:=by unfold ba;rw [if_pos h]
  simp [h,e];refine aa.pure (lV o h.1.1 (by have:=h.1.2;omega)) (by simp) ?_;simp
 ·have e : ba o = []:=by unfold ba;rw [if_neg h]
  have e2 : dc (aH o) = false:=by rw [aC];exact h
  simp [e,e2]
theorem lJ (o : List Part) (hl : nL al o<=2 ^ 40) : aj Tryz.prog 388 [.c (.s (o.map Part.row))] (.one (.c (.s ((ba o).map Part.row)) 3)):=by
 refine pci ae Tryz.func388 (λw0 base=>?_);simp;refine aa.pure (bJ o hl) (by simp) ?_;by_cases hopk : aH o
 rotate_left
 ·have e : ba o = []:=by unfold ba;rw [if_neg hopk]
  have e2 : dc (aH o) = false:=by rw [aC];exact hopk
  simp [e,e2]
 have e : ba o = normal o:=by unfold ba;rw [if_pos hopk]
 have ho:=hopk.1.1;have hlen:=hopk.1.2;simp [hopk,e];intro b
 refine aw eok (λx : Nat × Hd × Hd=>x.1<=o.length) (λx=>⟨38,0,[(13,.v (.int .i64 x.1)),(12,.v (.int .i64 o.length)),(11,.ro (o.map Part.row)),(3,.p 160 b 0)],
  [(160, .vars b 363 [.sl 5000 x.2.1 3 0 (aJ (o.take x.1)).1.length, .sl 5001 x.2.2 1 0 (aJ (o.take x.1)).2.1.length, .v (.int .i64 (aJ (o.take x.1)).2.2)]),
   (5000,.rows x.2.1 3 ((aJ (o.take x.1)).1.map Part.row) true),(5001,.rows x.2.2 1 ((aJ (o.take x.1)).2.1.map aB) true)]⟩) (λx=>o.length - x.1) (0,none,none) (by simp) (by simp [aJ]) (λx hx=>Ent.refl ?_)
 obtain ⟨i,Hl,Hp⟩:=x;simp only at hx ⊢;have hok:=ib ho i hx;by_cases h : i < o.length
 ·have hs:=eK h
  have hpb:=(ho _ (List.getElem_mem h)).bounds;generalize aJ (o.take i) = s at hok hs;obtain ⟨L,P,D⟩:=s;obtain ⟨k1,k2,k3,k4,k5⟩:=hok;simp only at k1 k2 k3 k4 k5;have e : Go.IntKind.i64.wrap ((i : Int) + 1) = ((i + 1 : Nat) : Int):=az (by omega);simp [h,Part.row];intro b5;by_cases c1 : o[i].kind = 1
  ·simp [c1]
   by_cases cn : 0 < o[i].n
   ·have hstep : bP (L,P,D) o[i] = (aZ (au L P D) o[i].n,[],0):=by simp [bP,c1,cn]
    rw [hstep] at hs;have f2:=el (P:=P) k3 k4 k5;refine pY (L:=L) (P:=P) (D:=D) (Hl:=Hl) (Hp:=Hp) (by omega) (by omega) cn hpb.2.2.1 (λq hq=>by have:=f2 q hq;omega) (by simp) (by simp) (by simp) (λHl' h' k160 k5000 k80=>?_);simp;refine Ent.kill 5001 (Ent.refl ⟨i + 1,by omega,by omega,Hl',none,?_⟩);rw [hs];simp [e,k160,k5000]
   ·have cn0 : o[i].n = 0:=by omega
    refine inl ae Tryz.func397 30000 (λw1 F=>?_);simp [cn0];refine Ent.refl ⟨i + 1,by omega,by omega,Hl,Hp,?_⟩;rw [hs];simp [bP,c1,cn0,e]
  ·by_cases c2 : o[i].kind = 2
   ·simp [c2]
    refine inl ae Tryz.func394 30000 (λw1 F=>?_);simp;refine ⟨by omega,λH=>?_⟩;refine Ent.refl ⟨i + 1,by omega,by omega,Hl,H,?_⟩;rw [hs];simp [bP,c2,e]
   ·have c3 : o[i].kind = 3:=by omega
    have e3 : Go.IntKind.i64.wrap (D + o[i].n) = D + o[i].n:=Go.IntWalk.i64_in _ (by omega);simp [c1,c2];refine inl ae Tryz.func393 30000 (λw1 F=>?_);simp [e3];refine Ent.refl ⟨i + 1,by omega,by omega,Hl,Hp,?_⟩;rw [hs];simp [bP,c3,e]
 ·have he : o.take i = o:=List.take_of_length_le (by omega)
  rw [he] at hok ⊢;have hn : normal o = au (aJ o).1 (aJ o).2.1 (aJ o).2.2:=rfl;rw [hn];generalize aJ o = s at hok;obtain ⟨L,P,D⟩:=s;obtain ⟨k1,k2,k3,k4,k5⟩:=hok;simp only at k1 k2 k3 k4 k5;simp [h];refine inl ae Tryz.func398 30000 (λw1 F=>?_);simp;refine jt (L:=L) (P:=P) (D:=D) (Hl:=Hl) (Hp:=Hp) (by omega) (by omega) (by simp) (by simp) (by simp) (λHl' h' k160 k5000 k80=>?_);simp [k160,k5000]
theorem fp (a b : List Int) (hl : a.length<=2 ^ 40) : aj Tryz.prog 117 [.c (.s (a.map aB)),.c (.s (b.map aB))] (.one (.c (vb (a = b)) 1)):=by
 refine pci ae Tryz.func117 (λw0 base=>?_);by_cases h : a.length = b.length
 ·simp [h]
  refine aQ.intro eok (λi : Nat=>i<=a.length/\a.take i = b.take i) (λi=>⟨26,0,[(13,.v (.int .i64 i)),(12,.v (.int .i64 b.length)),(1,.ro (b.map aB)),(0,.ro (a.map aB))],[]⟩) (λi=>a.length - i) 0 (by simp) (by simp) (λi hi=>?_);by_cases hlt : i < a.length
  ·have hlt' : i < b.length:=by omega
   simp [hlt'];refine aY.quiet eok mix (by kernel_rfl) ?_;simp [hlt,hlt'];refine Br.mk (λh1=>?_) (λh1=>?_)
   ·simp
    exact ⟨i + 1,⟨by omega,fm hlt hlt' hi.2 (iF h1)⟩,by omega,az (by omega)⟩
   ·simp [aC]
    exact lZ hlt hlt' (lS h1)
  ·have hlt' : ¬ i < b.length:=by omega
   simp [hlt',gA];exact gm (by omega) (by omega) hi.2
 ·have hz : ¬ (a.length : Int) = b.length:=by omega
  simp [hz,aC];exact λh2=>absurd (by rw [h2]) h
theorem jv (a b : List Int) (hl : a.length<=2 ^ 40) : aj Tryz.prog 194 [.c (.s (a.map aB)),.c (.s (b.map aB))] (.one (.c (vb (a = b)) 1)):=by
 refine pci ae Tryz.func194 (λw0 base=>?_);by_cases h : a.length = b.length
 ·simp [h]
  refine aQ.intro eok (λi : Nat=>i<=a.length/\a.take i = b.take i) (λi=>⟨26,0,[(13,.v (.int .i64 i)),(12,.v (.int .i64 b.length)),(1,.ro (b.map aB)),(0,.ro (a.map aB))],[]⟩) (λi=>a.length - i) 0 (by simp) (by simp) (λi hi=>?_);by_cases hlt : i < a.length
  ·have hlt' : i < b.length:=by omega
   simp [hlt'];refine aY.quiet eok mix (by kernel_rfl) ?_;simp [hlt,hlt'];refine Br.mk (λh1=>?_) (λh1=>?_)
   ·simp
    exact ⟨i + 1,⟨by omega,fm hlt hlt' hi.2 (iF h1)⟩,by omega,az (by omega)⟩
   ·simp [aC]
    exact lZ hlt hlt' (lS h1)
  ·have hlt' : ¬ i < b.length:=by omega
   simp [hlt',gA];exact gm (by omega) (by omega) hi.2
 ·have hz : ¬ (a.length : Int) = b.length:=by omega
  simp [hz,aC];exact λh2=>absurd (by rw [h2]) h
theorem vf (p q : Part) (hl : p.signs.length<=2 ^ 40) : aj Tryz.prog 307 [.agg p.row,.agg q.row] (.one (.c (vb (p = q)) 1)):=by
 refine pci ae Tryz.func307 (λw0 base=>?_);obtain ⟨k1,n1,s1⟩:=p;obtain ⟨k2,n2,s2⟩:=q;simp [Part.row];intro b1 b2;by_cases h1 : k1 = k2
 ·by_cases h2 : n1 = n2
  ·simp [h1,h2]
   refine aa.pure (fp s1 s2 hl) (by simp) ?_;simp
  ·simp [h1,h2]
 ·simp [h1]
theorem uE (a b : List Part) (hl : a.length<=2 ^ 40) (hs : ∀ p∈a,p.signs.length<=2 ^ 40) : aj Tryz.prog 306 [.c (.s (a.map Part.row)),.c (.s (b.map Part.row)),.c (.v (.func (.func 307) #[] #[]))] (.one (.c (vb (a = b)) 1)):=by
 refine pci ae Tryz.func306 (λw0 base=>?_);by_cases h : a.length = b.length
 ·simp [h]
  refine aQ.intro eok (λi : Nat=>i<=a.length/\a.take i = b.take i) (λi=>⟨32,0,[(17,.v (.int .i64 i)),(16,.v (.int .i64 b.length)),(15,.ro (a.map Part.row)),(2,.v (.func (.func 307) #[] #[])),(1,.ro (b.map Part.row))],[]⟩) (λi=>a.length - i) 0 (by simp) (by simp) (λi hi=>?_);by_cases hlt : i < a.length
  ·have hlt' : i < b.length:=by omega
   simp [hlt,hlt',Part.row];intro b1 b2;refine aa.pure (vf a[i] b[i] (hs _ (List.getElem_mem hlt))) (by simp [Part.row]) ?_;simp;refine Br.mk (λh1=>?_) (λh1=>?_)
   ·simp
    exact ⟨i + 1,⟨by omega,fm hlt hlt' hi.2 (iF h1)⟩,by omega,az (by omega)⟩
   ·simp [aC]
    exact lZ hlt hlt' (lS h1)
  ·have hlt' : ¬ i < b.length:=by omega
   simp [hlt',gA];exact gm (by omega) (by omega) hi.2
 ·have hz : ¬ (a.length : Int) = b.length:=by omega
  simp [hz,aC];exact λh2=>absurd (by rw [h2]) h
theorem Ax (a b : List Part) (hl : a.length<=2 ^ 40) (hs : ∀ p∈a,p.signs.length<=2 ^ 40) : aj Tryz.prog 225 [.c (.s (a.map Part.row)),.c (.s (b.map Part.row))] (.one (.c (vb (a = b)) 1)):=by
 refine pci ae Tryz.func225 (λw0 base=>?_);simp;refine aa.pure (uE a b hl hs) (by simp) ?_;simp
theorem rX (a b : List Part) (hl : a.length<=2 ^ 40) (hs : ∀ p∈a,p.signs.length<=2 ^ 40) : aj Tryz.prog 285 [.c (.s (a.map Part.row)),.c (.s (b.map Part.row))] (.one (.c (vb (a = b)) 1)):=by
 refine pci ae Tryz.func285 (λw0 base=>?_);by_cases h : a.length = b.length
 ·simp [h]
  refine aQ.intro eok (λi : Nat=>i<=a.length/\a.take i = b.take i) (λi=>⟨49,0,[(14,.v (.int .i64 i)),(13,.v (.int .i64 b.length)),(12,.ro (a.map Part.row)),(1,.ro (b.map Part.row))],[]⟩) (λi=>a.length - i) 0 (by simp) (by simp) (λi hi=>?_);by_cases hlt : i < a.length
  ·have hlt' : i < b.length:=by omega
   simp [hlt,hlt',Part.row];intro b1;refine aY.quiet eok mix (by kernel_rfl) ?_;simp [hlt',Part.row];by_cases h1 : a[i].kind = b[i].kind
   ·by_cases h2 : a[i].n = b[i].n
    ·simp [h1,h2,hlt',Part.row]
     refine ⟨_,_,jv a[i].signs b[i].signs (hs _ (List.getElem_mem hlt)),by simp,?_⟩;simp;by_cases h3 : a[i].signs = b[i].signs
     ·simp [h3]
      have he : a[i] = b[i]:=by
       cases hx : a[i];cases hy : b[i]
       rw [hx,hy] at h1 h2 h3;simp at h1 h2 h3;rw [h1,h2,h3]
      exact ⟨i + 1,⟨by omega,fm hlt hlt' hi.2 he⟩,by omega,az (by omega)⟩
     ·simp [h3,aC]
      exact lZ hlt hlt' (λhe=>h3 (by rw [he]))
    ·simp [h1,h2,hlt',Part.row,aC]
     exact lZ hlt hlt' (λhe=>h2 (by rw [he]))
   ·simp [h1,aC]
    exact lZ hlt hlt' (λhe=>h1 (by rw [he]))
  ·have hlt' : ¬ i < b.length:=by omega
   simp [hlt',gA];exact gm (by omega) (by omega) hi.2
 ·have hz : ¬ (a.length : Int) = b.length:=by omega
  simp [hz,aC];exact λh2=>absurd (by rw [h2]) h
theorem e9 (a b : List Part) (h : nL al a<=2 ^ 40) : aj Tryz.prog 225 [.c (.s (a.map Part.row)),.c (.s (b.map Part.row))] (.one (.c (vb (a = b)) 1)):=Ax a b (bL h) (λ_p hp=>dy h hp)
theorem kJ (a b : List Part) (h : nL al a<=2 ^ 40) : aj Tryz.prog 285 [.c (.s (a.map Part.row)),.c (.s (b.map Part.row))] (.one (.c (vb (a = b)) 1)):=rX a b (bL h) (λ_p hp=>dy h hp)
theorem fL {α : Type} {f : α->Nat} : ∀ (a b : List α),ca f (a ++ b) = ca f a + ca f b
 | [],b=>by simp [ca]
 | x :: a,b=>by simp only [List.cons_append,ca,fL a b];omega
theorem tl {α : Type} {f : α->Nat} : ∀ (l : List α) (i : Nat) (h : i < l.length) (x : α),f x = f l[i]->ca f (l.set i x) = ca f l
 | a :: l,0,_,x,hx=>by simp at hx;simp [ca,hx]
 | a :: l, i + 1, h, x, hx => by
   simp only [List.set_cons_succ,ca];rw [tl l i (by simpa using h) x (by simpa using hx)]
theorem ng {L : List Part} {P : List Int} {D : Int} : ca al (au L P D) = ca al L + P.length:=by
 unfold au;rw [fL,fL];by_cases hp : P = []<;>by_cases hd : 0 < D<;>simp [hp,hd,ca,al]
theorem vr {L : List Part} {n : Int} : ca al (aZ L n) = ca al L:=by
 unfold aZ
 split
 ·rename_i h
  split
  ·exact tl L _ (by omega) _ rfl
  ·rw [fL];simp [ca,al]
 ·rename_i h
  have : L = []:=List.eq_nil_of_length_eq_zero (by omega);subst this;simp [ca,al]
theorem q6 {o : List Part} : ∀ (i : Nat),i<=o.length->ca al (aJ (o.take i)).1 + (aJ (o.take i)).2.1.length<=ca al (o.take i)
 | 0,_=>by simp [aJ,ca]
 | i + 1, hi => by
   have ih:=q6 (o:=o) i (by omega);have hlt : i < o.length:=by omega
   rw [eK hlt,<- List.take_append_getElem hlt,fL];generalize aJ (o.take i) = s at ih;generalize o[i] = p;obtain ⟨L,P,D⟩:=s;simp only at ih;have hp : ca al [p] = p.signs.length:=by simp [ca,al]
   rw [hp];unfold bP
   split
   ·simp;omega
   ·split
    ·simp;omega
    ·split
     ·simp only [vr,ng];simp;omega
     ·simp;omega
theorem vo (o : List Part) : ca al (normal o)<=ca al o:=by
 have h:=q6 (o:=o) o.length (by omega);rw [List.take_length] at h;unfold normal;rw [ng];exact h
theorem vp {o : List Part} (ho : ∀ p∈o,ai p) : (normal o).length<=3 * o.length + 2:=by
 have h:=(ib ho o.length (by omega)).l;rw [List.take_length] at h;have:=ee (aJ o).1 (aJ o).2.1 (aJ o).2.2;unfold normal;omega
theorem ou {o : List Part} (ho : ∀ p∈o,ai p) : ca al o<=200 * o.length:=by
 induction o with
 | nil=>simp [ca]
 | cons p o ih =>
   have h1:=(ho p (List.mem_cons_self ..)).bounds;have h2:=ih (λq hq=>ho q (List.mem_cons_of_mem _ hq));simp only [ca,al,List.length_cons];omega
theorem AG {o : List Part} (ho : ∀ p∈o,ai p) : nL al o<=201 * o.length:=by
 have:=ou ho;unfold nL;omega
theorem fw {o : List Part} (ho : ∀ p∈o,ai p) : nL al (normal o)<=203 * o.length + 2:=by
 have h1:=vo o;have h2:=vp ho;have h3:=ou ho;unfold nL;omega
theorem lR (o : List Part) : nL al (ba o)<=2 ^ 20:=by
 unfold ba
 split
 ·rename_i h
  have:=fw h.1.1;have:=h.1.2;omega
 ·simp [nL,ca]
def cK (o : List Part) : Prop:=aH o/\ba o = o
theorem iJ (o : List Part) (hl : nL al o<=2 ^ 40) : aj Tryz.prog 252 [.c (.s (o.map Part.row))] (.one (.c (vb (cK o)) 1)):=by
 refine pci ae Tryz.func252 (λw0 base=>?_);simp;refine aa.pure (bT o hl) (by simp) ?_;by_cases h : aH o
 ·simp [h]
  refine aa.pure (mf o hl) (by simp) ?_;simp;intro H;refine aa.pure (e9 o (ba o) hl) (by simp) ?_;simp [cK,h];exact gB ⟨λh=>h.symm,λh=>h.symm⟩
 ·simp [h,cK]
theorem iC (o : List Part) (hl : nL al o<=2 ^ 40) : aj Tryz.prog 353 [.c (.s (o.map Part.row))] (.one (.c (vb (cK o)) 1)):=by
 refine pci ae Tryz.func353 (λw0 base=>?_);simp;refine aa.pure (bJ o hl) (by simp) ?_;by_cases h : aH o
 ·simp [h]
  refine aa.pure (lJ o hl) (by simp) ?_;simp;intro H;refine aa.pure (kJ (ba o) o (Nat.le_trans (lR o) (by decide))) (by simp) ?_;simp [cK,h]
 ·simp [h,cK]
open Classical in
noncomputable def nO (o : List Part) : Int:=if aH o then bk fP o else 0
open Classical in
noncomputable def kT (o : List Part) : Int:=if aH o then bk fD o else 0
open Classical in
noncomputable def dH (o : List Part) (k : Int) : Int:=if aH o then bk (fOf k) o else 0
theorem xz (o : List Part) : dH o 2 = nO o:=by
 unfold dH nO
 split
 ·rename_i h;exact dF (λp hp=>of2 (h.1.1 p hp))
 ·rfl
theorem vW (o : List Part) : dH o 3 = kT o:=by
 unfold dH kT
 split
 ·rename_i h;exact dF (λp hp=>of3 (h.1.1 p hp))
 ·rfl
theorem ig (o : List Part) (hl : nL al o<=2 ^ 40) (k : Int) : aj Tryz.prog 337 [.c (.s (o.map Part.row)),.c (vi k)] (.one (.c (vi (dH o k)) 1)):=by
 refine pci ae Tryz.func337 (λw0 base=>?_);have hle:=bL hl;simp;refine aa.pure (bT o hl) (by simp) ?_;by_cases hok : aH o
 ·have ho:=hok.1
  have hr : dH o k = bk (fOf k) o:=by unfold dH;rw [if_pos hok]
  simp [hok,hr];refine aQ.intro eok (λi : Nat=>i<=o.length) (λi=>⟨27,0,[(13,.v (.int .i64 i)),(12,.v (.int .i64 o.length)),(11,.ro (o.map Part.row)),(5,.v (.int .i64 (bk (fOf k) (o.take i)))),(1,.v (.int .i64 k))],[]⟩) (λi=>o.length - i) 0 (by simp) (by simp [bk]) (λi hi=>?_);by_cases h : i < o.length
  ·have hp:=ho.1 _ (List.getElem_mem h)
   have hb:=cS (f:=fOf k) (λp h=>JS h) (iz ho.1 i);have hb2:=hp.bounds;have hlen:=ho.2;have hlt : (o.take i).length<=600:=by simp;omega
   have hs:=d6 (f:=fOf k) h;obtain ⟨q,hq⟩ : ∃ q,bk (fOf k) (o.take i) = q:=⟨_,rfl⟩;have e : Go.IntKind.i64.wrap ((i : Int) + 1) = ((i + 1 : Nat) : Int):=az (by omega);rw [hq] at hs hb;simp [h,Part.row,hq];intros;by_cases hk : o[i].kind = k
   ·simp [hk]
    refine aa.pure (Ab o[i] hp) (by simp [Part.row,hk]) ?_;have e2 : Go.IntKind.i64.wrap (q + (o[i].n + (o[i].signs.length : Int))) = q + (o[i].n + o[i].signs.length):=Go.IntWalk.i64_in _ (by omega);simp [e2];refine ⟨i + 1,by omega,by omega,e,?_⟩;rw [hs];simp [fOf,hk]
   ·simp [hk]
    refine ⟨i + 1,by omega,by omega,e,?_⟩;rw [hs];simp [fOf,hk]
  ·simp [h]
   rw [List.take_of_length_le (by omega)]
 ·have e : dc (aH o) = false:=by rw [aC];exact hok
  have hr : dH o k = 0:=by unfold dH;rw [if_neg hok]
  simp [e,hr]
theorem vI (o : List Part) (hl : nL al o<=2 ^ 40) : aj Tryz.prog 256 [.c (.s (o.map Part.row))] (.one (.c (vi (nO o)) 1)):=by
 refine pci ae Tryz.func256 (λw0 base=>?_);simp;refine aa.pure (ig o hl 2) (by simp) ?_;simp [xz]
theorem uo (o : List Part) (hl : nL al o<=2 ^ 40) : aj Tryz.prog 257 [.c (.s (o.map Part.row))] (.one (.c (vi (kT o)) 1)):=by
 refine pci ae Tryz.func257 (λw0 base=>?_);simp;refine aa.pure (ig o hl 3) (by simp) ?_;simp [vW]
theorem u7 (o : List Part) (hl : nL al o<=2 ^ 40) : aj Tryz.prog 399 [.c (.s (o.map Part.row))] (.one (.c (vi (nO o)) 1)):=by
 refine pci ae Tryz.func399 (λw0 base=>?_);simp;refine aa.pure (bJ o hl) (by simp) ?_;by_cases h : aH o
 ·simp [h]
  refine aa.pure (mc o hl) (by simp) ?_;simp [nO,h,bu,h.1]
 ·have e : dc (aH o) = false:=by rw [aC];exact h
  simp [nO,h]
theorem tC (o : List Part) (hl : nL al o<=2 ^ 40) : aj Tryz.prog 400 [.c (.s (o.map Part.row))] (.one (.c (vi (kT o)) 1)):=by
 refine pci ae Tryz.func400 (λw0 base=>?_);simp;refine aa.pure (bJ o hl) (by simp) ?_;by_cases h : aH o
 ·simp [h]
  refine aa.pure (mc o hl) (by simp) ?_;simp [kT,h,bu,h.1]
 ·have e : dc (aH o) = false:=by rw [aC];exact h
  simp [kT,h]
def idle (o : List Part) : Prop:=aH o/\nO o = 0/\kT o = 0
theorem lj (o : List Part) (hl : nL al o<=2 ^ 40) : aj Tryz.prog 156 [.c (.s (o.map Part.row))] (.one (.c (vb (idle o)) 1)):=by
 refine pci ae Tryz.func156 (λw0 base=>?_);simp;refine aa.pure (bT o hl) (by simp) ?_;by_cases h : aH o
 ·simp [h]
  refine aa.pure (vI o hl) (by simp) ?_;by_cases h1 : nO o = 0
  ·simp [h1]
   refine aa.pure (uo o hl) (by simp) ?_;simp [idle,h,h1]
  ·simp [h1,idle]
 ·simp [h,idle]
theorem oA (o : List Part) (hl : nL al o<=2 ^ 40) : aj Tryz.prog 371 [.c (.s (o.map Part.row))] (.one (.c (vb (idle o)) 1)):=by
 refine pci ae Tryz.func371 (λw0 base=>?_);simp;refine aa.pure (bJ o hl) (by simp) ?_;by_cases h : aH o
 ·simp [h]
  refine aa.pure (u7 o hl) (by simp) ?_;by_cases h1 : nO o = 0
  ·simp [h1]
   refine aa.pure (tC o hl) (by simp) ?_;simp [idle,h,h1]
  ·simp [h1,idle]
 ·simp [h,idle]
def bY (t : List Int) : Prop:=t.length<=200/\db t
theorem gd (t : List Int) (hl : t.length<=2 ^ 40) : aj Tryz.prog 214 [.c (.s (t.map aB))] (.one (.c (vb (bY t)) 1)):=by
 refine pci ae Tryz.func214 (λw0 base=>?_);by_cases h : t.length<=200
 ·have h' : (t.length : Int)<=200:=by omega
  simp [h'];refine aa.pure (kN t hl) (by simp) ?_;simp [bY,h]
 ·have h' : ¬ (t.length : Int)<=200:=by omega
  simp [h',bY,h]
theorem f5 (t : List Int) (hl : t.length<=2 ^ 40) : aj Tryz.prog 209 [.c (.s (t.map aB))] (.one (.c (vb (bY t)) 1)):=by
 refine pci ae Tryz.func209 (λw0 base=>?_);simp;refine aa.pure (kF t hl) (by simp) ?_;have e : ((t.length : Int)<=200) = (t.length<=200):=by simp;omega
 by_cases hg : db t
 ·simp [hg,bY,e]
 ·simp [hg,bY]
open Classical in
noncomputable def aU (n : Int) : List Part:=if 1<=n/\n<=200 then [⟨1,n,[]⟩] else []
theorem fG (n : Int) : aj Tryz.prog 244 [.c (vi n)] (.one (.c (.s ((aU n).map Part.row)) 3)):=by
 refine pci ae Tryz.func244 (λw0 base=>?_);simp;refine aa.pure (bm n 1 200) (by simp) ?_;by_cases h : 1<=n/\n<=200
 ·simp [h,aU,Part.row]
 ·have e : dc (1<=n/\n<=200) = false:=by rw [aC];exact h
  have k : aU n = []:=by unfold aU;rw [if_neg h]
  simp [e,k]
theorem fE (n : Int) : aj Tryz.prog 367 [.c (vi n)] (.one (.c (.s ((aU n).map Part.row)) 3)):=by
 refine pci ae Tryz.func367 (λw0 base=>?_);simp;refine aa.pure (cl n 1 200) (by simp) ?_;by_cases h : 1<=n/\n<=200
 ·simp [h,aU,Part.row]
 ·have e : dc (1<=n/\n<=200) = false:=by rw [aC];exact h
  have k : aU n = []:=by unfold aU;rw [if_neg h]
  simp [e,k]
end Go.Proofs.YtoldjebobgocpaaGreat
