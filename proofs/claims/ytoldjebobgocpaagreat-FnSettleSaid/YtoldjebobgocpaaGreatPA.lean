import Derived.Test.YtoldjebobgocpaaGreatNA
import Derived.Test.YtoldjebobgocpaaGreatMF
namespace Go.Proofs.YtoldjebobgocpaaGreat
open Go.AM
set_option maxRecDepth 20000
theorem bC (n lo hi : Int) : ak Tryz.prog 112 [.c (vi n),.c (vi lo),.c (vi hi)] (.one (.c (vb (lo<=n/\n<=hi)) 1)):=by
 refine pci ae Tryz.func112 (λw0 base=>?_);by_cases h1 : lo<=n<;>by_cases h2 : n<=hi<;>simp [h1,h2]
theorem cF (n lo hi : Int) : ak Tryz.prog 67 [.c (vi n),.c (vi lo),.c (vi hi)] (.one (.c (vb (lo<=n/\n<=hi)) 1)):=by
 refine pci ae Tryz.func67 (λw0 base=>?_);by_cases h1 : lo<=n<;>by_cases h2 : n<=hi<;>simp [h1,h2]
def et (n : Int) : Prop:=(0<=n/\n<=1114111)/\¬ (55296<=n/\n<=57343)
def dy (l : List Int) : Prop:=∀ n∈l,et n
theorem tj (n : Int) : ak Tryz.prog 360 [.c (vi n)] (.one (.c (vb (et n)) 1)):=by
 refine pci ae Tryz.func360 (λw0 base=>?_);simp;refine aa.pure (bC n 0 1114111) (by simp) ?_;by_cases h : 0<=n/\n<=1114111
 ·simp [h]
  refine aa.pure (bC n 55296 57343) (by simp) ?_;by_cases h2 : 55296<=n/\n<=57343<;>simp [h2,et,h]
  try (rw [fZ];omega)
 ·have e : dc (0<=n/\n<=1114111) = false:=by rw [aC];exact h
  simp [et,h]
theorem sU (n : Int) : ak Tryz.prog 359 [.c (vi n)] (.one (.c (vb (et n)) 1)):=by
 refine pci ae Tryz.func359 (λw0 base=>?_);simp;refine aa.pure (cF n 0 1114111) (by simp) ?_;by_cases h : 0<=n/\n<=1114111
 ·simp [h]
  refine aa.pure (cF n 55296 57343) (by simp) ?_;by_cases h2 : 55296<=n/\n<=57343<;>simp [h2,et,h]
  try (rw [fZ];omega)
 ·have e : dc (0<=n/\n<=1114111) = false:=by rw [aC];exact h
  simp [et,h]
theorem jq {α : Type} {P : α->Prop} {l : List α} {i : Nat} (h : i < l.length) (ha : ∀ a∈l.take i,P a) (hi : P l[i]) : ∀ a∈l.take (i + 1),P a:=by
 rw [<- List.take_append_getElem h];intro a ha';rcases List.mem_append.1 ha' with h1 | h1
 ·exact ha a h1
 ·simp at h1;subst h1;exact hi
theorem kZ {α : Type} {P : α->Prop} {l : List α} {i : Nat} (h : l.length<=i) (ha : ∀ a∈l.take i,P a) : ∀ a∈l,P a:=by
 rwa [List.take_of_length_le h] at ha
theorem pe {α : Type} {P : α->Prop} {l : List α} {i : Nat} (h : i < l.length) (hi : ¬ P l[i]) : ¬ ∀ a∈l,P a:=λha=>hi (ha _ (List.getElem_mem h))
theorem lv (l : List Int) (hl : l.length<=2 ^ 40) : ak Tryz.prog 298 [.c (.s (l.map aE))] (.one (.c (vb (dy l)) 1)):=by
 refine pci ae Tryz.func298 (λw0 base=>?_);simp;refine aT.intro eok (λi : Nat=>i<=l.length/\∀ n∈l.take i,et n) (λi=>⟨15,0,[(7,.v (.int .i64 i)),(6,.v (.int .i64 l.length)),(5,.ro (l.map aE))],[]⟩) (λi=>l.length - i) 0 (by simp) (by simp) (λi hi=>?_);by_cases h : i < l.length
 ·simp [h]
  refine aa.pure (tj l[i]) (by simp) ?_;simp;refine Br.mk (λh1=>?_) (λh1=>?_)
  ·simp
   exact ⟨i + 1,⟨by omega,jq h hi.2 (i8 h1)⟩,by omega,aB (by omega)⟩
  ·simp [aC]
   exact pe h (mA h1)
 ·simp [h,fZ]
  exact kZ (by omega) hi.2
theorem lj (l : List Int) (hl : l.length<=2 ^ 40) : ak Tryz.prog 295 [.c (.s (l.map aE))] (.one (.c (vb (dy l)) 1)):=by
 refine pci ae Tryz.func295 (λw0 base=>?_);simp;refine aT.intro eok (λi : Nat=>i<=l.length/\∀ n∈l.take i,et n) (λi=>⟨15,0,[(7,.v (.int .i64 i)),(6,.v (.int .i64 l.length)),(5,.ro (l.map aE))],[]⟩) (λi=>l.length - i) 0 (by simp) (by simp) (λi hi=>?_);by_cases h : i < l.length
 ·simp [h]
  refine aa.pure (sU l[i]) (by simp) ?_;simp;refine Br.mk (λh1=>?_) (λh1=>?_)
  ·simp
   exact ⟨i + 1,⟨by omega,jq h hi.2 (i8 h1)⟩,by omega,aB (by omega)⟩
  ·simp [aC]
   exact pe h (mA h1)
 ·simp [h,fZ]
  exact kZ (by omega) hi.2
def ai (p : Part) : Prop:=((p.kind = 1\/p.kind = 3)/\(0<=p.n/\p.n<=200)/\p.signs = [])\/(p.kind = 2/\p.n = 0/\p.signs.length<=200/\dy p.signs)
theorem oe {p : Part} (h : p.kind = 1\/p.kind = 3) : ai p = ((0<=p.n/\p.n<=200)/\p.signs = []):=by
 have h2 : ¬ p.kind = 2:=by omega
 simp [ai,h,h2]
theorem eZ {p : Part} (h : p.kind = 2) : ai p = (p.n = 0/\p.signs.length<=200/\dy p.signs):=by simp [ai,h]
theorem rZ {p : Part} (h1 : p.kind≠1) (h2 : p.kind≠2) (h3 : p.kind≠3) : ¬ ai p:=by simp [ai,h1,h2,h3]
theorem tq (p : Part) (hl : p.signs.length<=2 ^ 40) : ak Tryz.prog 297 [.agg p.row] (.one (.c (vb (ai p)) 1)):=by
 refine pci ae Tryz.func297 (λw0 base=>?_);simp [Part.row];intros;by_cases h13 : p.kind = 1\/p.kind = 3
 ·rw [oe h13]
  rcases h13 with h | h
  ·simp [h]
   refine aa.pure (bC p.n 0 200) (by simp) ?_;by_cases hn : 0<=p.n/\p.n<=200
   ·simp [hn]
   ·have e : dc (0<=p.n/\p.n<=200) = false:=by rw [aC];exact hn
    simp [hn]
  ·simp [h]
   refine aa.pure (bC p.n 0 200) (by simp) ?_;by_cases hn : 0<=p.n/\p.n<=200
   ·simp [hn]
   ·have e : dc (0<=p.n/\p.n<=200) = false:=by rw [aC];exact hn
    simp [hn]
 ·have h1 : ¬ p.kind = 1:=λh=>h13 (.inl h)
  have h3 : ¬ p.kind = 3:=λh=>h13 (.inr h)
  by_cases h2 : p.kind = 2
  ·rw [eZ h2]
   simp [h2];by_cases hn : p.n = 0
   ·by_cases hs : p.signs.length<=200
    ·have hs' : (p.signs.length : Int)<=200:=by omega
     simp [hn,hs'];refine aa.pure (lv p.signs hl) (by simp) ?_;simp [hs]
    ·have hs' : ¬ (p.signs.length : Int)<=200:=by omega
     simp [hn,hs',hs]
   ·simp [hn]
  ·simp [h1,h2,h3,rZ]
theorem sW (p : Part) (hl : p.signs.length<=2 ^ 40) : ak Tryz.prog 294 [.agg p.row] (.one (.c (vb (ai p)) 1)):=by
 refine pci ae Tryz.func294 (λw0 base=>?_);simp [Part.row];intros;by_cases h13 : p.kind = 1\/p.kind = 3
 ·rw [oe h13]
  rcases h13 with h | h
  ·simp [h]
   refine aa.pure (cF p.n 0 200) (by simp) ?_;by_cases hn : 0<=p.n/\p.n<=200
   ·simp [hn]
   ·have e : dc (0<=p.n/\p.n<=200) = false:=by rw [aC];exact hn
    simp [hn]
  ·simp [h]
   refine aa.pure (cF p.n 0 200) (by simp) ?_;by_cases hn : 0<=p.n/\p.n<=200
   ·simp [hn]
   ·have e : dc (0<=p.n/\p.n<=200) = false:=by rw [aC];exact hn
    simp [hn]
 ·have h1 : ¬ p.kind = 1:=λh=>h13 (.inl h)
  have h3 : ¬ p.kind = 3:=λh=>h13 (.inr h)
  by_cases h2 : p.kind = 2
  ·rw [eZ h2]
   simp [h2];by_cases hn : p.n = 0
   ·simp [hn]
    refine aa.pure (lj p.signs hl) (by simp) ?_;have e : ((p.signs.length : Int)<=200) = (p.signs.length<=200):=by simp;omega
    by_cases hg : dy p.signs
    ·simp [hg,e]
    ·simp [hg]
   ·simp [hn]
  ·simp [h1,h2,h3,rZ]
def cX (o : List Part) : Prop:=(∀ p∈o,ai p)/\o.length<=600
theorem lz (o : List Part) (hl : nL al o<=2 ^ 40) : ak Tryz.prog 213 [.c (.s (o.map Part.row))] (.one (.c (vb (cX o)) 1)):=by
 refine pci ae Tryz.func213 (λw0 base=>?_);have hle:=cj hl;simp;refine aT.intro eok (λi : Nat=>i<=o.length/\∀ p∈o.take i,ai p) (λi=>⟨18,0,[(7,.v (.int .i64 i)),(6,.v (.int .i64 o.length)),(5,.ro (o.map Part.row)),(0,.ro (o.map Part.row))],[]⟩) (λi=>o.length - i) 0 (by simp) (by simp) (λi hi=>?_);by_cases h : i < o.length
 ·simp [h,Part.row]
  intros;refine aa.pure (tq o[i] (jG hl h)) (by simp [Part.row]) ?_;simp;refine Br.mk (λh1=>?_) (λh1=>?_)
  ·simp
   exact ⟨i + 1,⟨by omega,jq h hi.2 (i8 h1)⟩,by omega,aB (by omega)⟩
  ·simp [aC]
   exact λhp=>pe h (mA h1) hp.1
 ·have ha:=kZ (by omega) hi.2
  simp [h];refine gU ?_;unfold cX;exact ⟨λh=>by have:=h.2;omega,λh=>⟨ha,by omega⟩⟩
theorem ln (o : List Part) (hl : nL al o<=2 ^ 40) : ak Tryz.prog 208 [.c (.s (o.map Part.row))] (.one (.c (vb (cX o)) 1)):=by
 refine pci ae Tryz.func208 (λw0 base=>?_);have hle:=cj hl;simp;refine aT.intro eok (λi : Nat=>i<=o.length/\∀ p∈o.take i,ai p) (λi=>⟨18,0,[(7,.v (.int .i64 i)),(6,.v (.int .i64 o.length)),(5,.ro (o.map Part.row)),(0,.ro (o.map Part.row))],[]⟩) (λi=>o.length - i) 0 (by simp) (by simp) (λi hi=>?_);by_cases h : i < o.length
 ·simp [h,Part.row]
  intros;refine aa.pure (sW o[i] (jG hl h)) (by simp [Part.row]) ?_;simp;refine Br.mk (λh1=>?_) (λh1=>?_)
  ·simp
   exact ⟨i + 1,⟨by omega,jq h hi.2 (i8 h1)⟩,by omega,aB (by omega)⟩
  ·simp [aC]
   exact λhp=>pe h (mA h1) hp.1
 ·have ha:=kZ (by omega) hi.2
  simp [h];refine gU ?_;unfold cX;exact ⟨λh=>by have:=h.2;omega,λh=>⟨ha,by omega⟩⟩
def bp (f : Part->Int) : List Part->Int
 | []=>0
 | p :: o=>f p + bp f o
theorem n9 {f : Part->Int} : ∀ (a b : List Part),bp f (a ++ b) = bp f a + bp f b
 | [],b=>by simp [bp]
 | p :: a,b=>by simp only [List.cons_append,bp,n9 a b];omega
theorem ep {f : Part->Int} {o : List Part} {i : Nat} (h : i < o.length) : bp f (o.take (i + 1)) = bp f (o.take i) + f o[i]:=by
 rw [<- List.take_append_getElem h,n9];simp [bp]
theorem dS {f g : Part->Int} : ∀ {o : List Part},(∀ p∈o,f p = g p)->bp f o = bp g o
 | [],_=>rfl
 | p :: o, h => by
   simp only [bp];rw [h p (List.mem_cons_self ..),dS (λq hq=>h q (List.mem_cons_of_mem _ hq))]
theorem gN {f g : Part->Int} : ∀ (o : List Part),bp (λp=>f p + g p) o = bp f o + bp g o
 | []=>by simp [bp]
 | p :: o=>by simp only [bp,gN o];omega
def fK (p : Part) : Int:=if p.kind = 1 then p.n else 0
def fP (p : Part) : Int:=if p.kind = 2 then p.signs.length else 0
def fD (p : Part) : Int:=if p.kind = 1 then 0 else if p.kind = 2 then 0 else p.n
def jk (k : Int) (p : Part) : Int:=if p.kind = k then 0 else p.n + p.signs.length
def fOf (k : Int) (p : Part) : Int:=if p.kind = k then p.n + p.signs.length else 0
theorem ai.bounds {p : Part} (h : ai p) : (p.kind = 1\/p.kind = 2\/p.kind = 3)/\0<=p.n/\p.n<=200/\p.signs.length<=200/\(p.kind = 2->p.n = 0)/\(p.kind≠2->p.signs = []):=by
 rcases h with ⟨h1,h2,h3⟩ | ⟨h1,h2,h3,h4⟩
 ·refine ⟨by omega,by omega,by omega,by simp [h3],by omega,λ_=>h3⟩
 ·refine ⟨by omega,by omega,by omega,h3,λ_=>h2,λh=>absurd h1 h⟩
theorem Iw {p : Part} (h : ai p) : jk 2 p = fK p + fD p:=by
 obtain ⟨h1,h2,h3,h4,h5,h6⟩:=h.bounds;unfold jk fK fD;by_cases k2 : p.kind = 2
 ·simp [k2]
 ·by_cases k1 : p.kind = 1<;>simp [k1,k2,h6 k2]
theorem Iv {p : Part} (h : ai p) : jk 3 p = fK p + fP p:=by
 obtain ⟨h1,h2,h3,h4,h5,h6⟩:=h.bounds;unfold jk fK fP;rcases h1 with k | k | k
 ·simp [k,h6 (by omega)]
 ·simp [k,h5 k]
 ·simp [k]
theorem of2 {p : Part} (h : ai p) : fOf 2 p = fP p:=by
 obtain ⟨h1,h2,h3,h4,h5,h6⟩:=h.bounds;unfold fOf fP;by_cases k : p.kind = 2
 ·simp [k,h5 k]
 ·simp [k]
theorem of3 {p : Part} (h : ai p) : fOf 3 p = fD p:=by
 obtain ⟨h1,h2,h3,h4,h5,h6⟩:=h.bounds;unfold fOf fD;rcases h1 with k | k | k
 ·simp [k]
 ·simp [k]
 ·simp [k,h6 (by omega)]
theorem dk {f : Part->Int} {B : Int} (hf : ∀ p,ai p->0<=f p/\f p<=B) : ∀ {o : List Part},(∀ p∈o,ai p)->0<=bp f o/\bp f o<=B * o.length
 | [],_=>by simp [bp]
 | p :: o, h => by
   have h1:=hf p (h p (List.mem_cons_self ..));have h2:=dk hf (o:=o) (λq hq=>h q (List.mem_cons_of_mem _ hq));simp only [bp,List.length_cons];rw [show B * ((o.length + 1 : Nat) : Int) = B * o.length + B by rw [Int.natCast_add];simp [Int.mul_add]];omega
theorem CE {p : Part} (h : ai p) : 0<=fK p/\fK p<=200:=by have:=h.bounds;unfold fK;split<;>omega
theorem Ll {p : Part} (h : ai p) : 0<=fP p/\fP p<=200:=by have:=h.bounds;unfold fP;split<;>omega
theorem CF {p : Part} (h : ai p) : 0<=fD p/\fD p<=200:=by have:=h.bounds;unfold fD;split<;>(try split)<;>omega
theorem Im {k : Int} {p : Part} (h : ai p) : 0<=jk k p/\jk k p<=400:=by have:=h.bounds;unfold jk;split<;>omega
theorem Lm {k : Int} {p : Part} (h : ai p) : 0<=fOf k p/\fOf k p<=400:=by have:=h.bounds;unfold fOf;split<;>omega
theorem iW {o : List Part} (h : ∀ p∈o,ai p) (i : Nat) : ∀ p∈o.take i,ai p:=λp hp=>h p (List.mem_of_mem_take hp)
theorem BC (p : Part) (hp : ai p) : ak Tryz.prog 328 [.agg p.row] (.one (.c (vi (p.n + p.signs.length)) 1)):=by
 refine pci ae Tryz.func328 (λw0 base=>?_);have:=hp.bounds;have e : Go.IntKind.i64.wrap (p.n + (p.signs.length : Int)) = p.n + p.signs.length:=Go.IntWalk.i64_in _ (by omega);simp [Part.row,e]
open Classical in
noncomputable def sizeOf (o : List Part) (k : Int) : Int:=if cX o then bp (jk k) o else 0
theorem mQ (o : List Part) (hl : nL al o<=2 ^ 40) (k : Int) : ak Tryz.prog 331 [.c (.s (o.map Part.row)),.c (vi k)] (.one (.c (vi (sizeOf o k)) 1)):=by
 refine pci ae Tryz.func331 (λw0 base=>?_);have hle:=cj hl;simp;refine aa.pure (lz o hl) (by simp) ?_;by_cases ho : cX o
 ·have hr : sizeOf o k = bp (jk k) o:=by unfold sizeOf;rw [if_pos ho]
  simp [ho,hr];refine aT.intro eok (λi : Nat=>i<=o.length) (λi=>⟨27,0,[(13,.v (.int .i64 i)),(12,.v (.int .i64 o.length)),(11,.ro (o.map Part.row)),(5,.v (.int .i64 (bp (jk k) (o.take i)))),(1,.v (.int .i64 k))],[]⟩) (λi=>o.length - i) 0 (by simp) (by simp [bp]) (λi hi=>?_);by_cases h : i < o.length
  ·have hp:=ho.1 _ (List.getElem_mem h)
   have hb:=dk (f:=jk k) (λp h=>Im h) (iW ho.1 i);have hb2:=hp.bounds;have hlen:=ho.2;have hlt : (o.take i).length<=600:=by simp;omega
   have hs:=ep (f:=jk k) h;obtain ⟨q,hq⟩ : ∃ q,bp (jk k) (o.take i) = q:=⟨_,rfl⟩;have e : Go.IntKind.i64.wrap ((i : Int) + 1) = ((i + 1 : Nat) : Int):=aB (by omega);rw [hq] at hs hb;simp [h,Part.row,hq];intros;by_cases hk : o[i].kind = k
   ·simp [hk]
    refine ⟨i + 1,by omega,by omega,e,?_⟩;rw [hs];simp [jk,hk]
   ·simp [hk]
    refine aa.pure (BC o[i] hp) (by simp [Part.row]) ?_;have e2 : Go.IntKind.i64.wrap (q + (o[i].n + (o[i].signs.length : Int))) = q + (o[i].n + o[i].signs.length):=Go.IntWalk.i64_in _ (by omega);simp [e2];refine ⟨i + 1,by omega,by omega,e,?_⟩;rw [hs];simp [jk,hk]
  ·simp [h]
   rw [List.take_of_length_le (by omega)]
 ·have e : dc (cX o) = false:=by rw [aC];exact ho
  have hr : sizeOf o k = 0:=by unfold sizeOf;rw [if_neg ho]
  simp [e,hr]
open Classical in
noncomputable def bJ (o : List Part) : Int × Int × Int:=if cX o then (bp fK o,bp fP o,bp fD o) else (0,0,0)
theorem mO (o : List Part) (hl : nL al o<=2 ^ 40) : ak Tryz.prog 325 [.c (.s (o.map Part.row))] (.tup [.c (vi (bJ o).1) 1,.c (vi (bJ o).2.1) 1,.c (vi (bJ o).2.2) 1]):=by
 refine pci ae Tryz.func325 (λw0 base=>?_);have hle:=cj hl;simp;refine aa.pure (ln o hl) (by simp) ?_;by_cases ho : cX o
 ·have hr : bJ o = (bp fK o,bp fP o,bp fD o):=by unfold bJ;rw [if_pos ho]
  simp [ho,hr];refine aT.intro eok (λi : Nat=>i<=o.length) (λi=>⟨42,0,[(15,.v (.int .i64 i)),(14,.v (.int .i64 o.length)),(13,.ro (o.map Part.row)),(5,.v (.int .i64 (bp fK (o.take i)))),(6,.v (.int .i64 (bp fP (o.take i)))),(7,.v (.int .i64 (bp fD (o.take i))))],[]⟩) (λi=>o.length - i) 0 (by simp) (by simp [bp]) (λi hi=>?_);by_cases h : i < o.length
  ·have hp:=ho.1 _ (List.getElem_mem h)
   have hb1:=dk (f:=fK) (λp h=>CE h) (iW ho.1 i);have hb2:=dk (f:=fP) (λp h=>Ll h) (iW ho.1 i);have hb3:=dk (f:=fD) (λp h=>CF h) (iW ho.1 i);have hpb:=hp.bounds;have hlen:=ho.2;have hlt : (o.take i).length<=600:=by simp;omega
   have hs1:=ep (f:=fK) h;have hs2:=ep (f:=fP) h;have hs3:=ep (f:=fD) h;obtain ⟨q1,hq1⟩ : ∃ q,bp fK (o.take i) = q:=⟨_,rfl⟩;obtain ⟨q2,hq2⟩ : ∃ q,bp fP (o.take i) = q:=⟨_,rfl⟩;obtain ⟨q3,hq3⟩ : ∃ q,bp fD (o.take i) = q:=⟨_,rfl⟩;have e : Go.IntKind.i64.wrap ((i : Int) + 1) = ((i + 1 : Nat) : Int):=aB (by omega);rw [hq1] at hs1 hb1;rw [hq2] at hs2 hb2;rw [hq3] at hs3 hb3;simp [h,Part.row,hq1,hq2,hq3];intros;have e1 : Go.IntKind.i64.wrap (q1 + o[i].n) = q1 + o[i].n:=Go.IntWalk.i64_in _ (by omega);have e2 : Go.IntKind.i64.wrap (q2 + (o[i].signs.length : Int)) = q2 + o[i].signs.length:=Go.IntWalk.i64_in _ (by omega);have e3 : Go.IntKind.i64.wrap (q3 + o[i].n) = q3 + o[i].n:=Go.IntWalk.i64_in _ (by omega);by_cases k1 : o[i].kind = 1
   ·simp [k1,e1]
    refine ⟨i + 1,by omega,by omega,e,?_,?_,?_⟩
    ·rw [hs1];simp [fK,k1]
    ·rw [hs2];simp [fP,k1]
    ·rw [hs3];simp [fD,k1]
   ·by_cases k2 : o[i].kind = 2
    ·simp [k2,e2]
     refine ⟨i + 1,by omega,by omega,e,?_,?_,?_⟩
     ·rw [hs1];simp [fK,k2]
     ·rw [hs2];simp [fP,k2]
     ·rw [hs3];simp [fD,k2]
    ·simp [k1,k2,e3]
     refine ⟨i + 1,by omega,by omega,e,?_,?_,?_⟩
     ·rw [hs1];simp [fK,k1]
     ·rw [hs2];simp [fP,k2]
     ·rw [hs3];simp [fD,k1,k2]
  ·simp [h]
   rw [List.take_of_length_le (by omega)];simp
 ·have e : dc (cX o) = false:=by rw [aC];exact ho
  have hr : bJ o = (0,0,0):=by unfold bJ;rw [if_neg ho]
  simp [e,hr]
noncomputable def az (o : List Part) : Int:=(bJ o).1 + (bJ o).2.2
noncomputable def cN (o : List Part) : Int:=(bJ o).1 + (bJ o).2.1
theorem uX (o : List Part) : sizeOf o 2 = az o:=by
 unfold sizeOf az bJ
 split
 ·rename_i h
  show _ = bp fK o + bp fD o
  rw [<- gN];exact dS (λp hp=>Iw (h.1 p hp))
 ·rfl
theorem y3 (o : List Part) : sizeOf o 3 = cN o:=by
 unfold sizeOf cN bJ
 split
 ·rename_i h
  show _ = bp fK o + bp fP o
  rw [<- gN];exact dS (λp hp=>Iv (h.1 p hp))
 ·rfl
theorem ve (o : List Part) : (0<=(bJ o).1/\(bJ o).1<=120000)/\(0<=(bJ o).2.1/\(bJ o).2.1<=120000)/\0<=(bJ o).2.2/\(bJ o).2.2<=120000:=by
 unfold bJ
 split
 ·rename_i h
  have h1:=dk (f:=fK) (λp h=>CE h) h.1;have h2:=dk (f:=fP) (λp h=>Ll h) h.1;have h3:=dk (f:=fD) (λp h=>CF h) h.1;have h4:=h.2;simp only;omega
 ·simp
theorem dz (o : List Part) (hl : nL al o<=2 ^ 40) : ak Tryz.prog 253 [.c (.s (o.map Part.row))] (.one (.c (vi (az o)) 1)):=by
 refine pci ae Tryz.func253 (λw0 base=>?_);simp;refine aa.pure (mQ o hl 2) (by simp) ?_;simp [uX]
theorem jc (o : List Part) (hl : nL al o<=2 ^ 40) : ak Tryz.prog 245 [.c (.s (o.map Part.row))] (.one (.c (vi (cN o)) 1)):=by
 refine pci ae Tryz.func245 (λw0 base=>?_);simp;refine aa.pure (mQ o hl 3) (by simp) ?_;simp [y3]
theorem cW (o : List Part) (hl : nL al o<=2 ^ 40) : ak Tryz.prog 387 [.c (.s (o.map Part.row))] (.one (.c (vi (az o)) 1)):=by
 refine pci ae Tryz.func387 (λw0 base=>?_);simp;refine aa.pure (mO o hl) (by simp) ?_;have:=ve o;have e : Go.IntKind.i64.wrap ((bJ o).1 + (bJ o).2.2) = az o:=Go.IntWalk.i64_in _ (by omega);simp [e]
theorem fS (o : List Part) (hl : nL al o<=2 ^ 40) : ak Tryz.prog 240 [.c (.s (o.map Part.row))] (.one (.c (vi (cN o)) 1)):=by
 refine pci ae Tryz.func240 (λw0 base=>?_);simp;refine aa.pure (mO o hl) (by simp) ?_;have:=ve o;have e : Go.IntKind.i64.wrap ((bJ o).1 + (bJ o).2.1) = cN o:=Go.IntWalk.i64_in _ (by omega);simp [e]
def aK (o : List Part) : Prop:=cX o/\az o<=200/\cN o<=200
theorem cl (o : List Part) (hl : nL al o<=2 ^ 40) : ak Tryz.prog 255 [.c (.s (o.map Part.row))] (.one (.c (vb (aK o)) 1)):=by
 refine pci ae Tryz.func255 (λw0 base=>?_);simp;refine aa.pure (lz o hl) (by simp) ?_;by_cases h : cX o
 ·simp [h]
  refine aa.pure (dz o hl) (by simp) ?_;by_cases h1 : az o<=200
  ·simp [h1]
   refine aa.pure (jc o hl) (by simp) ?_;simp [aK,h,h1]
  ·simp [h1,aK,h]
 ·simp [h,aK]
theorem bS (o : List Part) (hl : nL al o<=2 ^ 40) : ak Tryz.prog 382 [.c (.s (o.map Part.row))] (.one (.c (vb (aK o)) 1)):=by
 refine pci ae Tryz.func382 (λw0 base=>?_);simp;refine aa.pure (ln o hl) (by simp) ?_;by_cases h : cX o
 ·simp [h]
  refine aa.pure (cW o hl) (by simp) ?_;by_cases h1 : az o<=200
  ·simp [h1]
   refine aa.pure (fS o hl) (by simp) ?_;simp [aK,h,h1]
  ·simp [h1,aK,h]
 ·simp [h,aK]
def au (L : List Part) (P : List Int) (D : Int) : List Part:=L ++ ((if P = [] then [] else [⟨2,0,P⟩]) ++ (if 0 < D then [⟨3,D,[]⟩] else []))
def be (L : List Part) (n : Int) : List Part:=
 if h : 0 < L.length then
  if (L[L.length - 1]'(by omega)).kind = 1 then L.set (L.length - 1) ⟨1,(L[L.length - 1]'(by omega)).n + n,(L[L.length - 1]'(by omega)).signs⟩ else L ++ [⟨1,n,[]⟩]
 else [⟨1,n,[]⟩]
def ca (s : List Part × List Int × Int) (p : Part) : List Part × List Int × Int:=
 if p.kind = 2 then (s.1,s.2.1 ++ p.signs,s.2.2)
 else if p.kind = 3 then (s.1,s.2.1,s.2.2 + p.n)
 else if 0 < p.n then (be (au s.1 s.2.1 s.2.2) p.n,[],0) else s
def aM (o : List Part) : List Part × List Int × Int:=o.foldl ca ([],[],0)
def normal (o : List Part) : List Part:=au (aM o).1 (aM o).2.1 (aM o).2.2
theorem fi {o : List Part} {i : Nat} (h : i < o.length) : aM (o.take (i + 1)) = ca (aM (o.take i)) o[i]:=by
 unfold aM;rw [<- List.take_append_getElem h,List.foldl_append];rfl
structure NbOk (m : Nat) (s : List Part × List Int × Int) : Prop where
 l : s.1.length<=3 * m
 p : s.2.1.length<=200 * m
 d0 : 0<=s.2.2
 d : s.2.2<=200 * m
 q : ∀ q∈s.1,0<=q.n/\q.n<=200 * m
theorem eC (L : List Part) (P : List Int) (D : Int) : (au L P D).length<=L.length + 2:=by
 unfold au
 split<;>split<;>simp
theorem eJ {L : List Part} {P : List Int} {D B : Int} (h0 : 0<=D) (hD : D<=B) (hL : ∀ q∈L,0<=q.n/\q.n<=B) : ∀ q∈au L P D,0<=q.n/\q.n<=B:=by
 intro q hq;unfold au at hq;simp only [List.mem_append] at hq;rcases hq with hq | hq | hq
 ·exact hL q hq
 ·split at hq
  ·simp at hq
  ·simp at hq;subst hq;simp;omega
 ·split at hq
  ·simp at hq;subst hq;simp;omega
  ·simp at hq
theorem iH {o : List Part} (ho : ∀ p∈o,ai p) : ∀ (i : Nat),i<=o.length->NbOk i (aM (o.take i))
 | 0, _ => by
   simp [aM];exact ⟨by simp,by simp,by simp,by simp,by simp⟩
 | i + 1, hi => by
   have ih:=iH ho i (by omega);have hlt : i < o.length:=by omega
   rw [fi hlt];have hp:=(ho _ (List.getElem_mem hlt)).bounds;generalize aM (o.take i) = s at ih;generalize o[i] = p at hp;obtain ⟨L,P,D⟩:=s;obtain ⟨h1,h2,h3,h4,h5⟩:=ih;simp only at h1 h2 h3 h4 h5;have w : ∀ q∈L,0<=q.n/\q.n<=200 * ((i + 1 : Nat) : Int):=λq hq=>by have:=h5 q hq;omega
   unfold ca
   split
   ·exact ⟨by simp;omega,by simp;omega,h3,by simp;omega,w⟩
   ·split
    ·exact ⟨by simp;omega,by simp;omega,by simp;omega,by simp;omega,w⟩
    ·split
     ·have f1:=eC L P D
      have f2:=eJ (P:=P) h3 h4 h5;refine ⟨?_,by simp,by simp,by simp;omega,?_⟩
      ·simp only [be]
       split
       ·split<;>simp<;>omega
       ·simp;omega
      ·simp only [be]
       intro q hq
       split at hq
       ·split at hq
        ·rcases List.mem_or_eq_of_mem_set hq with hq | rfl
         ·have:=f2 q hq;omega
         ·have:=f2 _ (List.getElem_mem (show (au L P D).length - 1 < (au L P D).length by omega))
          simp only;omega
        ·rcases List.mem_append.1 hq with hq | hq
         ·have:=f2 q hq;omega
         ·simp at hq;subst hq;simp;omega
       ·simp at hq;subst hq;simp;omega
     ·exact ⟨by simp;omega,by simp;omega,h3,by simp;omega,w⟩
theorem kt {L : List Part} {P : List Int} {D : Int} (hP : ¬ P = []) (hD : 0 < D) : au L P D = L ++ [⟨2,0,P⟩] ++ [⟨3,D,[]⟩]:=by simp [au,hP,hD]
theorem kr {L : List Part} {P : List Int} {D : Int} (hP : ¬ P = []) (hD : ¬ 0 < D) : au L P D = L ++ [⟨2,0,P⟩]:=by simp [au,hP,hD]
theorem kn {L : List Part} {P : List Int} {D : Int} (hP : P = []) (hD : 0 < D) : au L P D = L ++ [⟨3,D,[]⟩]:=by simp [au,hP,hD]
theorem kl {L : List Part} {P : List Int} {D : Int} (hP : P = []) (hD : ¬ 0 < D) : au L P D = L:=by simp [au,hP,hD]
theorem kg {w0 : World} {bF bG : Nat->Prop} {bl : Bool} {st : ASt} {dst : Option Nat} {K : ASt->Prop} {L : List Part} {P : List Int} {D : Int} {b3 b4 b5 : Nat} {Hl Hp : Hd} (hL : L.length<=2 ^ 20) (_hP : P.length<=2 ^ 40)
 (g48 : st.h.get 48 = .vars b3 63 [.sl 5000 Hl 3 0 L.length]) (g64 : st.h.get 64 = .vars b4 26 [.sl 5001 Hp 1 0 P.length]) (g80 : st.h.get 80 = .vars b5 3 [.v (.int .i64 D)])
 (g5000 : st.h.get 5000 = .rows Hl 3 (L.map Part.row) true) (g5001 : st.h.get 5001 = .rows Hp 1 (P.map aE) true)
 (hK : ∀ Hl' h',AH.get h' 48 = .vars b3 63 [.sl 5000 Hl' 3 0 (au L P D).length] -> AH.get h' 5000 = .rows Hl' 3 ((au L P D).map Part.row) true -> AH.get h' 64 = .vars b4 26 [.nil] -> AH.get h' 80 = .vars b5 3 [.v (.int .i64 0)] ->
  AH.get h' 128 = st.h.get 128->aQ ⟨st.n,st.kb,st.t,h'⟩ dst (.tup []) K) : aa ⟨Tryz.prog,tt,w0,⟨bF,bG,bl,λ_=>True⟩⟩ 374 [.p 64 b4 0,.p 48 b3 0,.p 80 b5 0] st dst K:=by
 refine inl ae Tryz.func374 20000 (λw1 F=>?_);simp [g64];by_cases hp : P = []
 ·have hp0 : ¬ 0 < P.length:=by simp [hp]
  simp [hp0,g80];by_cases hd : 0 < D
  ·simp [hd,g48,g5000,g80,g64]
   intro b;refine ⟨by omega,λH=>hK H _ ?_ ?_ ?_ ?_ ?_⟩<;>simp [kn hp hd,Part.row]
  ·simp [hd,g80,g64]
   refine hK Hl _ ?_ ?_ ?_ ?_ ?_<;>simp [kl hp hd,g48,g5000]
 ·have hp0 : 0 < P.length:=List.length_pos_iff.2 hp
  simp [hp0,g80,g48,g5000,g5001,g64];intro b;refine ⟨by omega,λH=>?_⟩;by_cases hd : 0 < D
  ·simp [hd,g80,g64]
   intro b2;refine ⟨by omega,λH2=>hK H2 _ ?_ ?_ ?_ ?_ ?_⟩<;>simp [kt hp hd,Part.row]
  ·simp [hd,g80,g64]
   refine hK H _ ?_ ?_ ?_ ?_ ?_<;>simp [kr hp hd,Part.row]
theorem gQ {F : List Part} {m : Nat} (h : m < F.length) {g : List CD->List CD} {p : Part} (hg : g F[m].row = p.row) : (F.map Part.row).modify m g = (F.set m p).map Part.row:=by
 apply List.ext_getElem?
 intro j;rw [List.getElem?_modify];simp only [List.getElem?_map,List.getElem?_set];by_cases hj : m = j
 ·subst hj
  simp [h,hg]
 ·simp [hj]
theorem mD (o : List Part) (ho : ∀ p∈o,ai p) (hl : o.length<=10000) : ak Tryz.prog 330 [.c (.s (o.map Part.row))] (.one (.c (.s ((normal o).map Part.row)) 3)):=by
 refine pci ae Tryz.func330 (λw0 base=>?_);simp;intro b3 b4 b5
 refine aw eok (λx : Nat × Hd × Hd=>x.1<=o.length) (λx=>⟨73,0,[(13,.v (.int .i64 x.1)),(12,.v (.int .i64 o.length)),(11,.ro (o.map Part.row)),(3,.p 48 b3 0),(4,.p 64 b4 0),(5,.p 80 b5 0),(6,.clo 374 [.p 64 b4 0,.p 48 b3 0,.p 80 b5 0])],
  [(48, .vars b3 63 [.sl 5000 x.2.1 3 0 (aM (o.take x.1)).1.length]), (64, .vars b4 26 [.sl 5001 x.2.2 1 0 (aM (o.take x.1)).2.1.length]), (80, .vars b5 3 [.v (.int .i64 (aM (o.take x.1)).2.2)]),
   (5000,.rows x.2.1 3 ((aM (o.take x.1)).1.map Part.row) true),(5001,.rows x.2.2 1 ((aM (o.take x.1)).2.1.map aE) true)]⟩) (λx=>o.length - x.1) (0,none,none) (by simp) (by simp [aM]) (λx hx=>Ent.refl ?_)
 obtain ⟨i,Hl,Hp⟩:=x;simp only at hx ⊢;have hok:=iH ho i hx;by_cases h : i < o.length
 ·have hs:=fi h
  have hpb:=(ho _ (List.getElem_mem h)).bounds;generalize aM (o.take i) = s at hok hs;obtain ⟨L,P,D⟩:=s;obtain ⟨k1,k2,k3,k4,k5⟩:=hok;simp only at k1 k2 k3 k4 k5;have e : Go.IntKind.i64.wrap ((i : Int) + 1) = ((i + 1 : Nat) : Int):=aB (by omega);simp [h,Part.row];intro b8;by_cases c2 : o[i].kind = 2
  ·simp [c2]
   refine ⟨by omega,λH=>?_⟩;refine Ent.refl ⟨i + 1,by omega,by omega,Hl,H,?_⟩;rw [hs];simp [ca,c2,e]
  ·by_cases c3 : o[i].kind = 3
   ·have e3 : Go.IntKind.i64.wrap (D + o[i].n) = D + o[i].n:=Go.IntWalk.i64_in _ (by omega)
    simp [c3,e3];refine Ent.refl ⟨i + 1,by omega,by omega,Hl,Hp,?_⟩;rw [hs];simp [ca,c3,e]
   ·by_cases cn : 0 < o[i].n
    ·simp [c2,c3,cn]
     refine kg (L:=L) (P:=P) (D:=D) (Hl:=Hl) (Hp:=Hp) (by omega) (by omega) (by simp) (by simp) (by simp) (by simp) (by simp) (λHl' h' g48 g5000 g64 g80 g128=>?_);have f1:=eC L P D;have f2:=eJ (P:=P) k3 k4 k5;have hstep : ca (L,P,D) o[i] = (be (au L P D) o[i].n,[],0):=by simp [ca,c2,c3,cn]
     rw [hstep] at hs;generalize au L P D = F at f1 f2 g48 g5000 hs;simp at g128;by_cases hF : 0 < F.length
     ·obtain ⟨m,hm⟩ : ∃ m,F.length = m + 1:=⟨F.length - 1,by omega⟩
      have hmlt : m < F.length:=by omega
      have em : Go.IntKind.i64.wrap (m : Int) = m:=je (by omega)
      have hk : be F o[i].n = if F[m].kind = 1 then F.set m ⟨1,F[m].n + o[i].n,F[m].signs⟩ else F ++ [⟨1,o[i].n,[]⟩]:=by
       have e0 : F.length - 1 = m:=by omega
       simp [be,hF,e0]
      have hq:=f2 _ (List.getElem_mem hmlt);simp [g48,g5000,hm,em,Part.row];by_cases ck : F[m].kind = 1
      ·rw [if_pos ck] at hk
       have em2 : Go.IntKind.i64.wrap (F[m].n + o[i].n) = F[m].n + o[i].n:=Go.IntWalk.i64_in _ (by omega);have hmm : (m : Int) < m + 1:=by omega
       simp [ck,hmm];refine drw eok mix [0,1,2,3,4,5,6,7,8,9,10] [11] (.c 11 11 2045 2 (.l 11 2) .s) ?_;simp [g48,g5000,g128,hm,em,Part.row,ck,em2,hmm];refine Ent.kill 5001 (Ent.refl ⟨i + 1,by omega,by omega,Hl',none,?_⟩);rw [hs,hk];have hmod:=gQ (F:=F) (m:=m) hmlt (g:=λrow=>ec row 1 [CD.v (Value.int IntKind.i64 (F[m].n + o[i].n))]) (p:=⟨1,F[m].n + o[i].n,F[m].signs⟩) (by simp [Part.row,ck]);simp [e,g48,g64,g80,hm,hmod]
      ·rw [if_neg ck] at hk
       simp [ck,g48,g5000,g128,hm];refine ⟨by omega,λb=>⟨by omega,λH=>?_⟩⟩;refine Ent.kill 5001 (Ent.refl ⟨i + 1,by omega,by omega,H,none,?_⟩);rw [hs,hk];simp [e,Part.row,g64,g80,hm]
     ·have hF0 : F = []:=List.eq_nil_of_length_eq_zero (by omega)
      subst hF0;have hk : be [] o[i].n = [⟨1,o[i].n,[]⟩]:=by simp [be]
      simp [g48,g5000,g128];intro b H;refine Ent.kill 5001 (Ent.refl ⟨i + 1,by omega,by omega,H,none,?_⟩);rw [hs,hk];simp [e,Part.row,g64,g80]
    ·simp [c2,c3,cn]
     refine Ent.refl ⟨i + 1,by omega,by omega,Hl,Hp,?_⟩;rw [hs];simp [ca,c2,c3,cn,e]
 ·have he : o.take i = o:=List.take_of_length_le (by omega)
  rw [he] at hok ⊢;have hn : normal o = au (aM o).1 (aM o).2.1 (aM o).2.2:=rfl;rw [hn];generalize aM o = s at hok;obtain ⟨L,P,D⟩:=s;obtain ⟨k1,k2,k3,k4,k5⟩:=hok;simp only at k1 k2 k3 k4 k5;simp [h];refine kg (L:=L) (P:=P) (D:=D) (Hl:=Hl) (Hp:=Hp) (by omega) (by omega) (by simp) (by simp) (by simp) (by simp) (by simp) (λHl' h' g48 g5000 g64 g80 g128=>?_);simp [g48,g5000]
theorem jR {w0 : World} {bF bG : Nat->Prop} {bl : Bool} {st : ASt} {dst : Option Nat} {K : ASt->Prop} {L : List Part} {P : List Int} {D : Int} {b : Nat} {Hl Hp : Hd} (hL : L.length<=2 ^ 20) (_hP : P.length<=2 ^ 40)
 (g160 : st.h.get 160 = .vars b 363 [.sl 5000 Hl 3 0 L.length,.sl 5001 Hp 1 0 P.length,.v (.int .i64 D)])
 (g5000 : st.h.get 5000 = .rows Hl 3 (L.map Part.row) true) (g5001 : st.h.get 5001 = .rows Hp 1 (P.map aE) true)
 (hK : ∀ Hl' h',AH.get h' 160 = .vars b 363 [.sl 5000 Hl' 3 0 (au L P D).length,.nil,.v (.int .i64 0)] -> AH.get h' 5000 = .rows Hl' 3 ((au L P D).map Part.row) true ->
  AH.get h' 80 = st.h.get 80->aQ ⟨st.n,st.kb,st.t,h'⟩ dst (.tup []) K) : aa ⟨Tryz.prog,tt,w0,⟨bF,bG,bl,λ_=>True⟩⟩ 408 [.p 160 b 0] st dst K:=by
 refine inl ae Tryz.func408 20000 (λw1 F=>?_);simp [g160];by_cases hp : P = []
 ·have hp0 : ¬ 0 < P.length:=by simp [hp]
  simp [hp0,g160];by_cases hd : 0 < D
  ·simp [hd]
   refine drw eok mix [0,1,2,3,4,5,6,7,8,9,12,13] [10,11,14] (.c 12 10 4 4091 (.c 12 11 128 3963 (.c 12 14 3961 2 (.l 12 2) .s) .s) .s) ?_;simp [g160,g5000];intro b1;refine ⟨by omega,λH=>hK H _ ?_ ?_ ?_⟩<;>simp [kn hp hd,Part.row]
  ·simp [hd,g160]
   refine hK Hl _ ?_ ?_ ?_<;>simp [kl hp hd,g5000]
 ·have hp0 : 0 < P.length:=List.length_pos_iff.2 hp
  simp [hp0];refine drw eok mix [0,1,2,3,4,5,6,7,8,9,12,13] [10,11,14] (.c 12 10 4 4091 (.c 12 11 128 3963 (.c 12 14 3961 2 (.l 12 2) .s) .s) .s) ?_;simp [g160,g5000,g5001];intro b1;refine ⟨by omega,λH=>?_⟩;by_cases hd : 0 < D
  ·simp [hd]
   refine drw eok mix [0,1,2,3,4,5,6,7,8,9,12,13] [10,11,14] (.c 12 10 4 4091 (.c 12 11 128 3963 (.c 12 14 3961 2 (.l 12 2) .s) .s) .s) ?_;simp;intro b2;refine ⟨by omega,λH2=>hK H2 _ ?_ ?_ ?_⟩<;>simp [kt hp hd,Part.row]
  ·simp [hd]
   refine hK H _ ?_ ?_ ?_<;>simp [kr hp hd,Part.row]
theorem qX {w0 : World} {bF bG : Nat->Prop} {bl : Bool} {st : ASt} {dst : Option Nat} {K : ASt->Prop} {L : List Part} {P : List Int} {D n : Int} {b : Nat} {Hl Hp : Hd} (hL : L.length<=2 ^ 19) (hP : P.length<=2 ^ 40) (hn0 : 0 < n) (hn : n<=200) (hF : ∀ q∈au L P D,0<=q.n/\q.n<=2 ^ 40)
 (g160 : st.h.get 160 = .vars b 363 [.sl 5000 Hl 3 0 L.length,.sl 5001 Hp 1 0 P.length,.v (.int .i64 D)])
 (g5000 : st.h.get 5000 = .rows Hl 3 (L.map Part.row) true) (g5001 : st.h.get 5001 = .rows Hp 1 (P.map aE) true)
 (hK : ∀ Hl' h',AH.get h' 160 = .vars b 363 [.sl 5000 Hl' 3 0 (be (au L P D) n).length,.nil,.v (.int .i64 0)] -> AH.get h' 5000 = .rows Hl' 3 ((be (au L P D) n).map Part.row) true ->
  AH.get h' 80 = st.h.get 80->aQ ⟨st.n,st.kb,st.t,h'⟩ dst (.tup []) K) : aa ⟨Tryz.prog,tt,w0,⟨bF,bG,bl,λ_=>True⟩⟩ 397 [.p 160 b 0,.v (.int .i64 n)] st dst K:=by
 refine inl ae Tryz.func397 30000 (λw1 F=>?_);have n0 : ¬ n = 0:=by omega
 simp [n0];refine jR (L:=L) (P:=P) (D:=D) (Hl:=Hl) (Hp:=Hp) (by omega) hP (by simp [g160]) (by simp [g5000]) (by simp [g5001]) (λHl' h' k160 k5000 k80=>?_);have f1:=eC L P D;generalize au L P D = F at f1 hF k160 k5000 hK;by_cases hF0 : 0 < F.length
 ·obtain ⟨m,hm⟩ : ∃ m,F.length = m + 1:=⟨F.length - 1,by omega⟩
  have hmlt : m < F.length:=by omega
  have hmm : (m : Int) < m + 1:=by omega
  have em : Go.IntKind.i64.wrap (m : Int) = m:=je (by omega)
  have hk : be F n = if F[m].kind = 1 then F.set m ⟨1,F[m].n + n,F[m].signs⟩ else F ++ [⟨1,n,[]⟩]:=by
   have e0 : F.length - 1 = m:=by omega
   simp [be,hF0,e0]
  have hq:=hF _ (List.getElem_mem hmlt);have em2 : Go.IntKind.i64.wrap (F[m].n + n) = F[m].n + n:=Go.IntWalk.i64_in _ (by omega);simp [k160,k5000,hm,em,hmm,Part.row];by_cases ck : F[m].kind = 1
  ·rw [if_pos ck] at hk
   simp [ck];refine drw eok mix [0,1,2,3,4,5,6,7,8,9,10,11,12,13,14,15,16,17,18] [19] (.c 19 19 524285 2 (.l 19 2) .s) ?_;simp [k160,k5000,hm,em,hmm,Part.row,ck,em2];have hmod:=gQ (F:=F) (m:=m) hmlt (g:=λrow=>ec row 1 [CD.v (Value.int IntKind.i64 (F[m].n + n))]) (p:=⟨1,F[m].n + n,F[m].signs⟩) (by simp [Part.row,ck]);refine hK Hl' _ ?_ ?_ ?_
   ·simp [k160,hk,hm]
   ·simp [hk,hmod]
   ·simp [k80]
  ·rw [if_neg ck] at hk
   simp [ck,k160,k5000,hm];intro b1;refine ⟨by omega,λH=>hK H _ ?_ ?_ ?_⟩<;>simp [hk,hm,Part.row,k80]
 ·have hF1 : F = []:=List.eq_nil_of_length_eq_zero (by omega)
  subst hF1;have hk : be [] n = [⟨1,n,[]⟩]:=by simp [be]
  simp [k160,k5000];intro b1 H;refine hK H _ ?_ ?_ ?_<;>simp [hk,Part.row,k80]
open Classical in
noncomputable def bf (o : List Part) : List Part:=if aK o then normal o else []
theorem mS (o : List Part) (hl : nL al o<=2 ^ 40) : ak Tryz.prog 336 [.c (.s (o.map Part.row))] (.one (.c (.s ((bf o).map Part.row)) 3)):=by
 refine pci ae Tryz.func336 (λw0 base=>?_);simp;refine aa.pure (cl o hl) (by simp) ?_;by_cases h : aK o
 ·have e : bf o = normal o:=by unfold bf;rw [if_pos h]
  simp [h,e];refine aa.pure (mD o h.1.1 (by have:=h.1.2;omega)) (by simp) ?_;simp
 ·have e : bf o = []:=by unfold bf;rw [if_neg h]
  have e2 : dc (aK o) = false:=by rw [aC];exact h
  simp [e,e2]
theorem mp (o : List Part) (hl : nL al o<=2 ^ 40) : ak Tryz.prog 388 [.c (.s (o.map Part.row))] (.one (.c (.s ((bf o).map Part.row)) 3)):=by
 refine pci ae Tryz.func388 (λw0 base=>?_);simp;refine aa.pure (bS o hl) (by simp) ?_;by_cases hopk : aK o
 rotate_left
 ·have e : bf o = []:=by unfold bf;rw [if_neg hopk]
  have e2 : dc (aK o) = false:=by rw [aC];exact hopk
  simp [e,e2]
 have e : bf o = normal o:=by unfold bf;rw [if_pos hopk]
 have ho:=hopk.1.1;have hlen:=hopk.1.2;simp [hopk,e];intro b
 refine aw eok (λx : Nat × Hd × Hd=>x.1<=o.length) (λx=>⟨38,0,[(13,.v (.int .i64 x.1)),(12,.v (.int .i64 o.length)),(11,.ro (o.map Part.row)),(3,.p 160 b 0)],
  [(160, .vars b 363 [.sl 5000 x.2.1 3 0 (aM (o.take x.1)).1.length, .sl 5001 x.2.2 1 0 (aM (o.take x.1)).2.1.length, .v (.int .i64 (aM (o.take x.1)).2.2)]),
   (5000,.rows x.2.1 3 ((aM (o.take x.1)).1.map Part.row) true),(5001,.rows x.2.2 1 ((aM (o.take x.1)).2.1.map aE) true)]⟩) (λx=>o.length - x.1) (0,none,none) (by simp) (by simp [aM]) (λx hx=>Ent.refl ?_)
 obtain ⟨i,Hl,Hp⟩:=x;simp only at hx ⊢;have hok:=iH ho i hx;by_cases h : i < o.length
 ·have hs:=fi h
  have hpb:=(ho _ (List.getElem_mem h)).bounds;generalize aM (o.take i) = s at hok hs;obtain ⟨L,P,D⟩:=s;obtain ⟨k1,k2,k3,k4,k5⟩:=hok;simp only at k1 k2 k3 k4 k5;have e : Go.IntKind.i64.wrap ((i : Int) + 1) = ((i + 1 : Nat) : Int):=aB (by omega);simp [h,Part.row];intro b5;by_cases c1 : o[i].kind = 1
  ·simp [c1]
   by_cases cn : 0 < o[i].n
   ·have hstep : ca (L,P,D) o[i] = (be (au L P D) o[i].n,[],0):=by simp [ca,c1,cn]
    rw [hstep] at hs;have f2:=eJ (P:=P) k3 k4 k5;refine qX (L:=L) (P:=P) (D:=D) (Hl:=Hl) (Hp:=Hp) (by omega) (by omega) cn hpb.2.2.1 (λq hq=>by have:=f2 q hq;omega) (by simp) (by simp) (by simp) (λHl' h' k160 k5000 k80=>?_);simp;refine Ent.kill 5001 (Ent.refl ⟨i + 1,by omega,by omega,Hl',none,?_⟩);rw [hs];simp [e,k160,k5000]
   ·have cn0 : o[i].n = 0:=by omega
    refine inl ae Tryz.func397 30000 (λw1 F=>?_);simp [cn0];refine Ent.refl ⟨i + 1,by omega,by omega,Hl,Hp,?_⟩;rw [hs];simp [ca,c1,cn0,e]
  ·by_cases c2 : o[i].kind = 2
   ·simp [c2]
    refine inl ae Tryz.func394 30000 (λw1 F=>?_);simp;refine ⟨by omega,λH=>?_⟩;refine Ent.refl ⟨i + 1,by omega,by omega,Hl,H,?_⟩;rw [hs];simp [ca,c2,e]
   ·have c3 : o[i].kind = 3:=by omega
    have e3 : Go.IntKind.i64.wrap (D + o[i].n) = D + o[i].n:=Go.IntWalk.i64_in _ (by omega);simp [c1,c2];refine inl ae Tryz.func393 30000 (λw1 F=>?_);simp [e3];refine Ent.refl ⟨i + 1,by omega,by omega,Hl,Hp,?_⟩;rw [hs];simp [ca,c3,e]
 ·have he : o.take i = o:=List.take_of_length_le (by omega)
  rw [he] at hok ⊢;have hn : normal o = au (aM o).1 (aM o).2.1 (aM o).2.2:=rfl;rw [hn];generalize aM o = s at hok;obtain ⟨L,P,D⟩:=s;obtain ⟨k1,k2,k3,k4,k5⟩:=hok;simp only at k1 k2 k3 k4 k5;simp [h];refine inl ae Tryz.func398 30000 (λw1 F=>?_);simp;refine jR (L:=L) (P:=P) (D:=D) (Hl:=Hl) (Hp:=Hp) (by omega) (by omega) (by simp) (by simp) (by simp) (λHl' h' k160 k5000 k80=>?_);simp [k160,k5000]
theorem gH (a b : List Int) (hl : a.length<=2 ^ 40) : ak Tryz.prog 117 [.c (.s (a.map aE)),.c (.s (b.map aE))] (.one (.c (vb (a = b)) 1)):=by
 refine pci ae Tryz.func117 (λw0 base=>?_);by_cases h : a.length = b.length
 ·simp [h]
  refine aT.intro eok (λi : Nat=>i<=a.length/\a.take i = b.take i) (λi=>⟨26,0,[(13,.v (.int .i64 i)),(12,.v (.int .i64 b.length)),(1,.ro (b.map aE)),(0,.ro (a.map aE))],[]⟩) (λi=>a.length - i) 0 (by simp) (by simp) (λi hi=>?_);by_cases hlt : i < a.length
  ·have hlt' : i < b.length:=by omega
   simp [hlt'];refine a9.quiet eok mix (by kernel_rfl) ?_;simp [hlt,hlt'];refine Br.mk (λh1=>?_) (λh1=>?_)
   ·simp
    exact ⟨i + 1,⟨by omega,fR hlt hlt' hi.2 (i8 h1)⟩,by omega,aB (by omega)⟩
   ·simp [aC]
    exact mH hlt hlt' (mA h1)
  ·have hlt' : ¬ i < b.length:=by omega
   simp [hlt',fZ];exact gM (by omega) (by omega) hi.2
 ·have hz : ¬ (a.length : Int) = b.length:=by omega
  simp [hz,aC];exact λh2=>absurd (by rw [h2]) h
theorem jT (a b : List Int) (hl : a.length<=2 ^ 40) : ak Tryz.prog 194 [.c (.s (a.map aE)),.c (.s (b.map aE))] (.one (.c (vb (a = b)) 1)):=by
 refine pci ae Tryz.func194 (λw0 base=>?_);by_cases h : a.length = b.length
 ·simp [h]
  refine aT.intro eok (λi : Nat=>i<=a.length/\a.take i = b.take i) (λi=>⟨26,0,[(13,.v (.int .i64 i)),(12,.v (.int .i64 b.length)),(1,.ro (b.map aE)),(0,.ro (a.map aE))],[]⟩) (λi=>a.length - i) 0 (by simp) (by simp) (λi hi=>?_);by_cases hlt : i < a.length
  ·have hlt' : i < b.length:=by omega
   simp [hlt'];refine a9.quiet eok mix (by kernel_rfl) ?_;simp [hlt,hlt'];refine Br.mk (λh1=>?_) (λh1=>?_)
   ·simp
    exact ⟨i + 1,⟨by omega,fR hlt hlt' hi.2 (i8 h1)⟩,by omega,aB (by omega)⟩
   ·simp [aC]
    exact mH hlt hlt' (mA h1)
  ·have hlt' : ¬ i < b.length:=by omega
   simp [hlt',fZ];exact gM (by omega) (by omega) hi.2
 ·have hz : ¬ (a.length : Int) = b.length:=by omega
  simp [hz,aC];exact λh2=>absurd (by rw [h2]) h
theorem wb (p q : Part) (hl : p.signs.length<=2 ^ 40) : ak Tryz.prog 307 [.agg p.row,.agg q.row] (.one (.c (vb (p = q)) 1)):=by
 refine pci ae Tryz.func307 (λw0 base=>?_);obtain ⟨k1,n1,s1⟩:=p;obtain ⟨k2,n2,s2⟩:=q;simp [Part.row];intro b1 b2;by_cases h1 : k1 = k2
 ·by_cases h2 : n1 = n2
  ·simp [h1,h2]
   refine aa.pure (gH s1 s2 hl) (by simp) ?_;simp
  ·simp [h1,h2]
 ·simp [h1]
theorem vD (a b : List Part) (hl : a.length<=2 ^ 40) (hs : ∀ p∈a,p.signs.length<=2 ^ 40) : ak Tryz.prog 306 [.c (.s (a.map Part.row)),.c (.s (b.map Part.row)),.c (.v (.func (.func 307) #[] #[]))] (.one (.c (vb (a = b)) 1)):=by
 refine pci ae Tryz.func306 (λw0 base=>?_);by_cases h : a.length = b.length
 ·simp [h]
  refine aT.intro eok (λi : Nat=>i<=a.length/\a.take i = b.take i) (λi=>⟨32,0,[(17,.v (.int .i64 i)),(16,.v (.int .i64 b.length)),(15,.ro (a.map Part.row)),(2,.v (.func (.func 307) #[] #[])),(1,.ro (b.map Part.row))],[]⟩) (λi=>a.length - i) 0 (by simp) (by simp) (λi hi=>?_);by_cases hlt : i < a.length
  ·have hlt' : i < b.length:=by omega
   simp [hlt,hlt',Part.row];intro b1 b2;refine aa.pure (wb a[i] b[i] (hs _ (List.getElem_mem hlt))) (by simp [Part.row]) ?_;simp;refine Br.mk (λh1=>?_) (λh1=>?_)
   ·simp
    exact ⟨i + 1,⟨by omega,fR hlt hlt' hi.2 (i8 h1)⟩,by omega,aB (by omega)⟩
   ·simp [aC]
    exact mH hlt hlt' (mA h1)
  ·have hlt' : ¬ i < b.length:=by omega
   simp [hlt',fZ];exact gM (by omega) (by omega) hi.2
 ·have hz : ¬ (a.length : Int) = b.length:=by omega
  simp [hz,aC];exact λh2=>absurd (by rw [h2]) h
theorem B2 (a b : List Part) (hl : a.length<=2 ^ 40) (hs : ∀ p∈a,p.signs.length<=2 ^ 40) : ak Tryz.prog 225 [.c (.s (a.map Part.row)),.c (.s (b.map Part.row))] (.one (.c (vb (a = b)) 1)):=by
 refine pci ae Tryz.func225 (λw0 base=>?_);simp;refine aa.pure (vD a b hl hs) (by simp) ?_;simp
theorem sX (a b : List Part) (hl : a.length<=2 ^ 40) (hs : ∀ p∈a,p.signs.length<=2 ^ 40) : ak Tryz.prog 285 [.c (.s (a.map Part.row)),.c (.s (b.map Part.row))] (.one (.c (vb (a = b)) 1)):=by
 refine pci ae Tryz.func285 (λw0 base=>?_);by_cases h : a.length = b.length
 ·simp [h]
  refine aT.intro eok (λi : Nat=>i<=a.length/\a.take i = b.take i) (λi=>⟨49,0,[(14,.v (.int .i64 i)),(13,.v (.int .i64 b.length)),(12,.ro (a.map Part.row)),(1,.ro (b.map Part.row))],[]⟩) (λi=>a.length - i) 0 (by simp) (by simp) (λi hi=>?_);by_cases hlt : i < a.length
  ·have hlt' : i < b.length:=by omega
   simp [hlt,hlt',Part.row];intro b1;refine a9.quiet eok mix (by kernel_rfl) ?_;simp [hlt',Part.row];by_cases h1 : a[i].kind = b[i].kind
   ·by_cases h2 : a[i].n = b[i].n
    ·simp [h1,h2,hlt',Part.row]
     refine ⟨_,_,jT a[i].signs b[i].signs (hs _ (List.getElem_mem hlt)),by simp,?_⟩;simp;by_cases h3 : a[i].signs = b[i].signs
     ·simp [h3]
      have he : a[i] = b[i]:=by
       cases hx : a[i];cases hy : b[i]
       rw [hx,hy] at h1 h2 h3;simp at h1 h2 h3;rw [h1,h2,h3]
      exact ⟨i + 1,⟨by omega,fR hlt hlt' hi.2 he⟩,by omega,aB (by omega)⟩
     ·simp [h3,aC]
      exact mH hlt hlt' (λhe=>h3 (by rw [he]))
    ·simp [h1,h2,hlt',Part.row,aC]
     exact mH hlt hlt' (λhe=>h2 (by rw [he]))
   ·simp [h1,aC]
    exact mH hlt hlt' (λhe=>h1 (by rw [he]))
  ·have hlt' : ¬ i < b.length:=by omega
   simp [hlt',fZ];exact gM (by omega) (by omega) hi.2
 ·have hz : ¬ (a.length : Int) = b.length:=by omega
  simp [hz,aC];exact λh2=>absurd (by rw [h2]) h
theorem fE (a b : List Part) (h : nL al a<=2 ^ 40) : ak Tryz.prog 225 [.c (.s (a.map Part.row)),.c (.s (b.map Part.row))] (.one (.c (vb (a = b)) 1)):=B2 a b (cj h) (λ_p hp=>dM h hp)
theorem lq (a b : List Part) (h : nL al a<=2 ^ 40) : ak Tryz.prog 285 [.c (.s (a.map Part.row)),.c (.s (b.map Part.row))] (.one (.c (vb (a = b)) 1)):=sX a b (cj h) (λ_p hp=>dM h hp)
theorem fd {α : Type} {f : α->Nat} : ∀ (a b : List α),bX f (a ++ b) = bX f a + bX f b
 | [],b=>by simp [bX]
 | x :: a,b=>by simp only [List.cons_append,bX,fd a b];omega
theorem ut {α : Type} {f : α->Nat} : ∀ (l : List α) (i : Nat) (h : i < l.length) (x : α),f x = f l[i]->bX f (l.set i x) = bX f l
 | a :: l,0,_,x,hx=>by simp at hx;simp [bX,hx]
 | a :: l, i + 1, h, x, hx => by
   simp only [List.set_cons_succ,bX];rw [ut l i (by simpa using h) x (by simpa using hx)]
theorem of {L : List Part} {P : List Int} {D : Int} : bX al (au L P D) = bX al L + P.length:=by
 unfold au;rw [fd,fd];by_cases hp : P = []<;>by_cases hd : 0 < D<;>simp [hp,hd,bX,al]
theorem ws {L : List Part} {n : Int} : bX al (be L n) = bX al L:=by
 unfold be
 split
 ·rename_i h
  split
  ·exact ut L _ (by omega) _ rfl
  ·rw [fd];simp [bX,al]
 ·rename_i h
  have : L = []:=List.eq_nil_of_length_eq_zero (by omega);subst this;simp [bX,al]
theorem r6 {o : List Part} : ∀ (i : Nat),i<=o.length->bX al (aM (o.take i)).1 + (aM (o.take i)).2.1.length<=bX al (o.take i)
 | 0,_=>by simp [aM,bX]
 | i + 1, hi => by
   have ih:=r6 (o:=o) i (by omega);have hlt : i < o.length:=by omega
   rw [fi hlt,<- List.take_append_getElem hlt,fd];generalize aM (o.take i) = s at ih;generalize o[i] = p;obtain ⟨L,P,D⟩:=s;simp only at ih;have hp : bX al [p] = p.signs.length:=by simp [bX,al]
   rw [hp];unfold ca
   split
   ·simp;omega
   ·split
    ·simp;omega
    ·split
     ·simp only [ws,of];simp;omega
     ·simp;omega
theorem wm (o : List Part) : bX al (normal o)<=bX al o:=by
 have h:=r6 (o:=o) o.length (by omega);rw [List.take_length] at h;unfold normal;rw [of];exact h
theorem wo {o : List Part} (ho : ∀ p∈o,ai p) : (normal o).length<=3 * o.length + 2:=by
 have h:=(iH ho o.length (by omega)).l;rw [List.take_length] at h;have:=eC (aM o).1 (aM o).2.1 (aM o).2.2;unfold normal;omega
theorem pm {o : List Part} (ho : ∀ p∈o,ai p) : bX al o<=200 * o.length:=by
 induction o with
 | nil=>simp [bX]
 | cons p o ih =>
   have h1:=(ho p (List.mem_cons_self ..)).bounds;have h2:=ih (λq hq=>ho q (List.mem_cons_of_mem _ hq));simp only [bX,al,List.length_cons];omega
theorem Cb {o : List Part} (ho : ∀ p∈o,ai p) : nL al o<=201 * o.length:=by
 have:=pm ho;unfold nL;omega
theorem fX {o : List Part} (ho : ∀ p∈o,ai p) : nL al (normal o)<=203 * o.length + 2:=by
 have h1:=wm o;have h2:=wo ho;have h3:=pm ho;unfold nL;omega
theorem mz (o : List Part) : nL al (bf o)<=2 ^ 20:=by
 unfold bf
 split
 ·rename_i h
  have:=fX h.1.1;have:=h.1.2;omega
 ·simp [nL,bX]
def cI (o : List Part) : Prop:=aK o/\bf o = o
theorem jd (o : List Part) (hl : nL al o<=2 ^ 40) : ak Tryz.prog 252 [.c (.s (o.map Part.row))] (.one (.c (vb (cI o)) 1)):=by
 refine pci ae Tryz.func252 (λw0 base=>?_);simp;refine aa.pure (cl o hl) (by simp) ?_;by_cases h : aK o
 ·simp [h]
  refine aa.pure (mS o hl) (by simp) ?_;simp;intro H;refine aa.pure (fE o (bf o) hl) (by simp) ?_;simp [cI,h];exact gU ⟨λh=>h.symm,λh=>h.symm⟩
 ·simp [h,cI]
theorem iY (o : List Part) (hl : nL al o<=2 ^ 40) : ak Tryz.prog 353 [.c (.s (o.map Part.row))] (.one (.c (vb (cI o)) 1)):=by
 refine pci ae Tryz.func353 (λw0 base=>?_);simp;refine aa.pure (bS o hl) (by simp) ?_;by_cases h : aK o
 ·simp [h]
  refine aa.pure (mp o hl) (by simp) ?_;simp;intro H;refine aa.pure (lq (bf o) o (Nat.le_trans (mz o) (by decide))) (by simp) ?_;simp [cI,h]
 ·simp [h,cI]
open Classical in
noncomputable def oN (o : List Part) : Int:=if aK o then bp fP o else 0
open Classical in
noncomputable def lE (o : List Part) : Int:=if aK o then bp fD o else 0
open Classical in
noncomputable def dU (o : List Part) (k : Int) : Int:=if aK o then bp (fOf k) o else 0
theorem yU (o : List Part) : dU o 2 = oN o:=by
 unfold dU oN
 split
 ·rename_i h;exact dS (λp hp=>of2 (h.1.1 p hp))
 ·rfl
theorem xi (o : List Part) : dU o 3 = lE o:=by
 unfold dU lE
 split
 ·rename_i h;exact dS (λp hp=>of3 (h.1.1 p hp))
 ·rfl
theorem iK (o : List Part) (hl : nL al o<=2 ^ 40) (k : Int) : ak Tryz.prog 337 [.c (.s (o.map Part.row)),.c (vi k)] (.one (.c (vi (dU o k)) 1)):=by
 refine pci ae Tryz.func337 (λw0 base=>?_);have hle:=cj hl;simp;refine aa.pure (cl o hl) (by simp) ?_;by_cases hok : aK o
 ·have ho:=hok.1
  have hr : dU o k = bp (fOf k) o:=by unfold dU;rw [if_pos hok]
  simp [hok,hr];refine aT.intro eok (λi : Nat=>i<=o.length) (λi=>⟨27,0,[(13,.v (.int .i64 i)),(12,.v (.int .i64 o.length)),(11,.ro (o.map Part.row)),(5,.v (.int .i64 (bp (fOf k) (o.take i)))),(1,.v (.int .i64 k))],[]⟩) (λi=>o.length - i) 0 (by simp) (by simp [bp]) (λi hi=>?_);by_cases h : i < o.length
  ·have hp:=ho.1 _ (List.getElem_mem h)
   have hb:=dk (f:=fOf k) (λp h=>Lm h) (iW ho.1 i);have hb2:=hp.bounds;have hlen:=ho.2;have hlt : (o.take i).length<=600:=by simp;omega
   have hs:=ep (f:=fOf k) h;obtain ⟨q,hq⟩ : ∃ q,bp (fOf k) (o.take i) = q:=⟨_,rfl⟩;have e : Go.IntKind.i64.wrap ((i : Int) + 1) = ((i + 1 : Nat) : Int):=aB (by omega);rw [hq] at hs hb;simp [h,Part.row,hq];intros;by_cases hk : o[i].kind = k
   ·simp [hk]
    refine aa.pure (BC o[i] hp) (by simp [Part.row,hk]) ?_;have e2 : Go.IntKind.i64.wrap (q + (o[i].n + (o[i].signs.length : Int))) = q + (o[i].n + o[i].signs.length):=Go.IntWalk.i64_in _ (by omega);simp [e2];refine ⟨i + 1,by omega,by omega,e,?_⟩;rw [hs];simp [fOf,hk]
   ·simp [hk]
    refine ⟨i + 1,by omega,by omega,e,?_⟩;rw [hs];simp [fOf,hk]
  ·simp [h]
   rw [List.take_of_length_le (by omega)]
 ·have e : dc (aK o) = false:=by rw [aC];exact hok
  have hr : dU o k = 0:=by unfold dU;rw [if_neg hok]
  simp [e,hr]
theorem wQ (o : List Part) (hl : nL al o<=2 ^ 40) : ak Tryz.prog 256 [.c (.s (o.map Part.row))] (.one (.c (vi (oN o)) 1)):=by
 refine pci ae Tryz.func256 (λw0 base=>?_);simp;refine aa.pure (iK o hl 2) (by simp) ?_;simp [yU]
theorem vl (o : List Part) (hl : nL al o<=2 ^ 40) : ak Tryz.prog 257 [.c (.s (o.map Part.row))] (.one (.c (vi (lE o)) 1)):=by
 refine pci ae Tryz.func257 (λw0 base=>?_);simp;refine aa.pure (iK o hl 3) (by simp) ?_;simp [xi]
theorem v4 (o : List Part) (hl : nL al o<=2 ^ 40) : ak Tryz.prog 399 [.c (.s (o.map Part.row))] (.one (.c (vi (oN o)) 1)):=by
 refine pci ae Tryz.func399 (λw0 base=>?_);simp;refine aa.pure (bS o hl) (by simp) ?_;by_cases h : aK o
 ·simp [h]
  refine aa.pure (mO o hl) (by simp) ?_;simp [oN,h,bJ,h.1]
 ·have e : dc (aK o) = false:=by rw [aC];exact h
  simp [oN,h]
theorem uC (o : List Part) (hl : nL al o<=2 ^ 40) : ak Tryz.prog 400 [.c (.s (o.map Part.row))] (.one (.c (vi (lE o)) 1)):=by
 refine pci ae Tryz.func400 (λw0 base=>?_);simp;refine aa.pure (bS o hl) (by simp) ?_;by_cases h : aK o
 ·simp [h]
  refine aa.pure (mO o hl) (by simp) ?_;simp [lE,h,bJ,h.1]
 ·have e : dc (aK o) = false:=by rw [aC];exact h
  simp [lE,h]
def idle (o : List Part) : Prop:=aK o/\oN o = 0/\lE o = 0
theorem lV (o : List Part) (hl : nL al o<=2 ^ 40) : ak Tryz.prog 156 [.c (.s (o.map Part.row))] (.one (.c (vb (idle o)) 1)):=by
 refine pci ae Tryz.func156 (λw0 base=>?_);simp;refine aa.pure (cl o hl) (by simp) ?_;by_cases h : aK o
 ·simp [h]
  refine aa.pure (wQ o hl) (by simp) ?_;by_cases h1 : oN o = 0
  ·simp [h1]
   refine aa.pure (vl o hl) (by simp) ?_;simp [idle,h,h1]
  ·simp [h1,idle]
 ·simp [h,idle]
theorem pt (o : List Part) (hl : nL al o<=2 ^ 40) : ak Tryz.prog 371 [.c (.s (o.map Part.row))] (.one (.c (vb (idle o)) 1)):=by
 refine pci ae Tryz.func371 (λw0 base=>?_);simp;refine aa.pure (bS o hl) (by simp) ?_;by_cases h : aK o
 ·simp [h]
  refine aa.pure (v4 o hl) (by simp) ?_;by_cases h1 : oN o = 0
  ·simp [h1]
   refine aa.pure (uC o hl) (by simp) ?_;simp [idle,h,h1]
  ·simp [h1,idle]
 ·simp [h,idle]
def cp (t : List Int) : Prop:=t.length<=200/\dy t
theorem gC (t : List Int) (hl : t.length<=2 ^ 40) : ak Tryz.prog 214 [.c (.s (t.map aE))] (.one (.c (vb (cp t)) 1)):=by
 refine pci ae Tryz.func214 (λw0 base=>?_);by_cases h : t.length<=200
 ·have h' : (t.length : Int)<=200:=by omega
  simp [h'];refine aa.pure (lv t hl) (by simp) ?_;simp [cp,h]
 ·have h' : ¬ (t.length : Int)<=200:=by omega
  simp [h',cp,h]
theorem gv (t : List Int) (hl : t.length<=2 ^ 40) : ak Tryz.prog 209 [.c (.s (t.map aE))] (.one (.c (vb (cp t)) 1)):=by
 refine pci ae Tryz.func209 (λw0 base=>?_);simp;refine aa.pure (lj t hl) (by simp) ?_;have e : ((t.length : Int)<=200) = (t.length<=200):=by simp;omega
 by_cases hg : dy t
 ·simp [hg,cp,e]
 ·simp [hg,cp]
open Classical in
noncomputable def aZ (n : Int) : List Part:=if 1<=n/\n<=200 then [⟨1,n,[]⟩] else []
theorem gb (n : Int) : ak Tryz.prog 244 [.c (vi n)] (.one (.c (.s ((aZ n).map Part.row)) 3)):=by
 refine pci ae Tryz.func244 (λw0 base=>?_);simp;refine aa.pure (bC n 1 200) (by simp) ?_;by_cases h : 1<=n/\n<=200
 ·simp [h,aZ,Part.row]
 ·have e : dc (1<=n/\n<=200) = false:=by rw [aC];exact h
  have k : aZ n = []:=by unfold aZ;rw [if_neg h]
  simp [e,k]
theorem f9 (n : Int) : ak Tryz.prog 367 [.c (vi n)] (.one (.c (.s ((aZ n).map Part.row)) 3)):=by
 refine pci ae Tryz.func367 (λw0 base=>?_);simp;refine aa.pure (cF n 1 200) (by simp) ?_;by_cases h : 1<=n/\n<=200
 ·simp [h,aZ,Part.row]
 ·have e : dc (1<=n/\n<=200) = false:=by rw [aC];exact h
  have k : aZ n = []:=by unfold aZ;rw [if_neg h]
  simp [e,k]
end Go.Proofs.YtoldjebobgocpaaGreat
