import Derived.Test.YtoldjebobgocpaaGreatPA
import Derived.Test.YtoldjebobgocpaaGreatNA
namespace Go.Proofs.YtoldjebobgocpaaGreat
set_option maxRecDepth 20000
def psz (p : Part) : Nat:=p.n.toNat + p.signs.length
def cq (p : Part) (n : Nat) : Part:=if p.kind = 2 then ⟨p.kind,p.n,p.signs.take n⟩ else ⟨p.kind,n,p.signs⟩
def aA (p : Part) (n : Nat) : Part:=if p.kind = 2 then ⟨p.kind,p.n,p.signs.drop n⟩ else ⟨p.kind,p.n - n,p.signs⟩
theorem dG {p : Part} (h : ai p) : (psz p : Int) = p.n + p.signs.length/\psz p<=200:=by
 have hb:=h.bounds;unfold psz;by_cases hk : p.kind = 2
 ·have:=hb.2.2.2.2.1 hk
  omega
 ·have:=hb.2.2.2.2.2 hk
  rw [this];simp;omega
@[simp] theorem Jt {p : Part} {n : Nat} : (cq p n).kind = p.kind:=by unfold cq;split<;>rfl
@[simp] theorem Hk {p : Part} {n : Nat} : (aA p n).kind = p.kind:=by unfold aA;split<;>rfl
theorem fA {p : Part} (h : ai p) {n : Nat} (hn : n<=psz p) : ai (cq p n):=by
 have hp:=dG h;unfold cq;by_cases hk : p.kind = 2
 ·rw [if_pos hk]
  rw [eZ hk] at h;refine .inr ⟨hk,h.1,?_,λm hm=>h.2.2 m (List.mem_of_mem_take hm)⟩;simp;omega
 ·rw [if_neg hk]
  have hb:=h.bounds;have hk2 : p.kind = 1\/p.kind = 3:=by omega
  have:=hb.2.2.2.2.2 hk;refine .inl ⟨hk2,?_,this⟩;simp only;omega
theorem uR {p : Part} (h : ai p) {n : Nat} (hn : n<=psz p) : ai (aA p n):=by
 have hp:=dG h;unfold aA;by_cases hk : p.kind = 2
 ·rw [if_pos hk]
  rw [eZ hk] at h;refine .inr ⟨hk,h.1,?_,λm hm=>h.2.2 m (List.mem_of_mem_drop hm)⟩;simp;omega
 ·rw [if_neg hk]
  have hb:=h.bounds;have hk2 : p.kind = 1\/p.kind = 3:=by omega
  have:=hb.2.2.2.2.2 hk;refine .inl ⟨hk2,?_,this⟩;rw [this] at hp;simp at hp;simp only;omega
theorem dJ {p : Part} (h : ai p) {n : Nat} (hn : n<=psz p) : psz (aA p n) = psz p - n:=by
 have hb:=h.bounds;unfold psz aA at *;by_cases hk : p.kind = 2
 ·rw [if_pos hk]
  have:=hb.2.2.2.2.1 hk;simp only [this,List.length_drop] at hn ⊢;omega
 ·rw [if_neg hk]
  have:=hb.2.2.2.2.2 hk;simp only [this,List.length_nil] at hn ⊢;omega
theorem bL {p : Part} (h : ai p) : cq p (psz p) = p:=by
 have hb:=h.bounds;unfold psz cq;by_cases hk : p.kind = 2
 ·rw [if_pos hk]
  have:=hb.2.2.2.2.1 hk;rw [List.take_of_length_le (by omega)]
 ·rw [if_neg hk]
  have:=hb.2.2.2.2.2 hk;obtain ⟨k,n,s⟩:=p;simp only at this hb;subst this;simp;omega
theorem uQ {p : Part} {m n : Nat} : aA (aA p m) n = aA p (m + n):=by
 unfold aA;by_cases hk : p.kind = 2
 ·simp [hk,List.drop_drop]
 ·simp [hk]
  omega
theorem wh {p : Part} : aA p 0 = p:=by unfold aA;split<;>simp
def nxt : List Part->List Part
 | []=>[]
 | p :: l=>if psz p = 0 then nxt l else p :: l
def tsz : List Part->Nat
 | []=>0
 | p :: l=>psz p + tsz l
def frs : List Part->Nat
 | []=>0
 | p :: l=>(if p.kind = 2 then 0 else psz p) + frs l
def tos : List Part->Nat
 | []=>0
 | p :: l=>(if p.kind = 3 then 0 else psz p) + tos l
theorem mB : ∀ l : List Part,tsz (nxt l) = tsz l
 | []=>rfl
 | p :: l => by
   unfold nxt
   split
   ·rename_i h;rw [mB l];simp [tsz,h]
   ·rfl
theorem eI : ∀ l : List Part,frs (nxt l) = frs l
 | []=>rfl
 | p :: l => by
   unfold nxt
   split
   ·rename_i h;rw [eI l];simp [frs,h]
   ·rfl
theorem mC : ∀ l : List Part,tos (nxt l) = tos l
 | []=>rfl
 | p :: l => by
   unfold nxt
   split
   ·rename_i h;rw [mC l];simp [tos,h]
   ·rfl
theorem bE : ∀ {l : List Part} {p : Part} {l' : List Part},nxt l = p :: l'->0 < psz p
 | [],p,l',h=>by simp [nxt] at h
 | q :: l, p, l', h => by
   unfold nxt at h
   split at h
   ·exact bE h
   ·simp at h;rw [<- h.1];omega
theorem bm : ∀ l : List Part,nxt (nxt l) = nxt l
 | []=>rfl
 | p :: l => by
   by_cases h : psz p = 0
   ·simp only [nxt,h,if_true];exact bm l
   ·simp only [nxt,h,if_false]
theorem lO : ∀ l : List Part,∃ k,k<=l.length/\nxt l = l.drop k/\∀ i,(h : i < l.length)->i < k->psz l[i] = 0
 | []=>⟨0,by simp,rfl,λi h=>by simp at h⟩
 | p :: l => by
   by_cases h : psz p = 0
   ·obtain ⟨k,h1,h2,h3⟩:=lO l
    refine ⟨k + 1,by simp;omega,by simp [nxt,h,h2],λi hi hk=>?_⟩
    cases i with
    | zero=>simpa using h
    | succ i=>simpa using h3 i (by simpa using hi) (by omega)
   ·exact ⟨0,by simp,by simp [nxt,h],λi _ hk=>by omega⟩
theorem eU {l : List Part} {p : Part} (h : p∈nxt l) : p∈l:=by
 obtain ⟨k,_,h2,_⟩:=lO l;rw [h2] at h;exact List.mem_of_mem_drop h
theorem o5 (l : List Part) : (nxt l).length<=l.length:=by
 obtain ⟨k,_,h2,_⟩:=lO l;rw [h2];simp
def du (x y : List Part) : Option (List Part × List Part × List Part):=
 match nxt x with
 | p :: x' => if p.kind = 3 then some ([cq p (psz p)], aA p (psz p) :: x', y) else match nxt y with
   | q :: y' => if q.kind = 2 then some ([cq q (psz q)], p :: x', aA q (psz q) :: y') else
       some (if q.kind = 1 then [cq p (min (psz p) (psz q))] else if p.kind = 1 then [cq q (min (psz p) (psz q))] else [],aA p (min (psz p) (psz q)) :: x',aA q (min (psz p) (psz q)) :: y')
   | []=>none
 | [] => match nxt y with
   | q :: y'=>if q.kind = 2 then some ([cq q (psz q)],[],aA q (psz q) :: y') else none
   | []=>none
structure CInv (x y : List Part) : Prop where
 px : ∀ p∈x,ai p
 py : ∀ p∈y,ai p
 b : tos x = frs y
theorem d7 {l l' : List Part} {p : Part} {n : Nat} (hl : ∀ q∈l,ai q) (he : nxt l = p :: l') (hn : n<=psz p) : ∀ q∈aA p n :: l',ai q:=by
 intro q hq;rcases List.mem_cons.1 hq with rfl | hq
 ·exact uR (hl p (eU (he ▸ List.mem_cons_self ..))) hn
 ·exact hl q (eU (he ▸ List.mem_cons_of_mem _ hq))
theorem cf {l l' : List Part} {p : Part} (hl : ∀ q∈l,ai q) (he : nxt l = p :: l') : ai p/\∀ q∈p :: l',ai q:=
 ⟨hl p (eU (he ▸ List.mem_cons_self ..)),λq hq=>hl q (eU (he ▸ hq))⟩
structure CNext (x y : List Part) (r : List Part × List Part × List Part) : Prop where
 inv : CInv r.2.1 r.2.2
 dec : tsz r.2.1 + tsz r.2.2 < tsz x + tsz y
 ok : ∀ p∈r.1,ai p
 len : r.1.length<=1
theorem dD {x y : List Part} (hi : CInv x y) {r : List Part × List Part × List Part} (h : du x y = some r) : CNext x y r:=by
 have hx:=mB x;have hy:=mB y;have hxt:=mC x;have hyf:=eI y;have hb:=hi.b;unfold du at h
 cases ex : nxt x with
 | nil =>
   rw [ex] at h hx hxt
   cases ey : nxt y with
   | nil=>simp [ey] at h
   | cons q y' =>
     rw [ey] at hy hyf;have hq:=cf hi.py ey;have hp:=bE ey;simp only [ey] at h
     split at h
     ·rename_i k
      cases h
      have hs:=dJ hq.1 (Nat.le_refl _);refine ⟨⟨by simp,d7 hi.py ey (Nat.le_refl _),?_⟩,?_,?_,by simp⟩
      ·simp [tos,frs,k] at hxt hyf ⊢;omega
      ·simp [tsz] at hx hy ⊢;omega
      ·intro p hp;simp at hp;subst hp;exact fA hq.1 (Nat.le_refl _)
     ·cases h
 | cons p x' =>
   rw [ex] at h hx hxt;have hp:=cf hi.px ex;have hpp:=bE ex;simp only at h
   split at h
   ·rename_i k
    cases h
    have hs:=dJ hp.1 (Nat.le_refl _);refine ⟨⟨d7 hi.px ex (Nat.le_refl _),hi.py,?_⟩,?_,?_,by simp⟩
    ·simp [tos,k] at hxt ⊢;omega
    ·simp [tsz] at hx ⊢;omega
    ·intro q hq;simp at hq;subst hq;exact fA hp.1 (Nat.le_refl _)
   ·rename_i k3
    cases ey : nxt y with
    | nil=>simp [ey] at h
    | cons q y' =>
      rw [ey] at hy hyf;have hq:=cf hi.py ey;have hqp:=bE ey;simp only [ey] at h
      split at h
      ·rename_i k
       cases h
       have hs:=dJ hq.1 (Nat.le_refl _);refine ⟨⟨hp.2,d7 hi.py ey (Nat.le_refl _),?_⟩,?_,?_,by simp⟩
       ·simp [tos,frs,k,k3] at hxt hyf ⊢;omega
       ·simp [tsz] at hx hy ⊢;omega
       ·intro p hp;simp at hp;subst hp;exact fA hq.1 (Nat.le_refl _)
      ·rename_i k2
       cases h
       have hn1 : min (psz p) (psz q)<=psz p:=by omega
       have hn2 : min (psz p) (psz q)<=psz q:=by omega
       have hs1:=dJ hp.1 hn1;have hs2:=dJ hq.1 hn2;refine ⟨⟨d7 hi.px ex hn1,d7 hi.py ey hn2,?_⟩,?_,?_,?_⟩
       ·simp [tos,frs,k2,k3] at hxt hyf ⊢;omega
       ·simp [tsz] at hx hy ⊢;omega
       ·intro r hr
        simp only at hr
        split at hr
        ·simp at hr;subst hr;exact fA hp.1 hn1
        ·split at hr
         ·simp at hr;subst hr;exact fA hq.1 hn2
         ·simp at hr
       ·simp only;split<;>(try split)<;>simp
noncomputable def oS : Nat->List Part->List Part->List Part
 | 0,_,_=>[]
 | k + 1, x, y => match du x y with
   | none=>[]
   | some r=>r.1 ++ oS k r.2.1 r.2.2
noncomputable def cmp (x y : List Part) : List Part:=oS (tsz x + tsz y) x y
theorem yz : ∀ (k m : Nat) {x y : List Part},CInv x y->tsz x + tsz y<=k->tsz x + tsz y<=m->oS k x y = oS m x y
 | 0,0,_,_,_,_,_=>rfl
 | k + 1, 0, x, y, hi, h, h2 => by
   rw [oS,oS]
   cases hs : du x y with
   | none=>rfl
   | some r=>have:=(dD hi hs).dec;omega
 | 0, m + 1, x, y, hi, h, h2 => by
   rw [oS,oS]
   cases hs : du x y with
   | none=>rfl
   | some r=>have:=(dD hi hs).dec;omega
 | k + 1, m + 1, x, y, hi, h, h2 => by
   rw [oS,oS]
   cases hs : du x y with
   | none=>rfl
   | some r =>
     have hn:=dD hi hs;have:=hn.dec;simp only;rw [yz k m hn.inv (by omega) (by omega)]
theorem ql {x y : List Part} (h : du x y = none) : cmp x y = []:=by
 unfold cmp
 cases tsz x + tsz y with
 | zero=>rfl
 | succ k=>rw [oS,h]
theorem iN {x y : List Part} (hi : CInv x y) {r : List Part × List Part × List Part} (h : du x y = some r) : cmp x y = r.1 ++ cmp r.2.1 r.2.2:=by
 have hn:=dD hi h;have hd:=hn.dec;unfold cmp;obtain ⟨k,hk⟩ : ∃ k,tsz x + tsz y = k + 1:=⟨tsz x + tsz y - 1,by omega⟩;rw [hk,oS,h];simp only;rw [yz k (tsz r.2.1 + tsz r.2.2) hn.inv (by omega) (by omega)]
abbrev XR:=(List Part × List Part) × List Part × List Part
def cM (x y : List Part) : Option XR:=
 match nxt x with
 | p :: x' => if p.kind = 2 then some (([cq p (psz p)], [⟨1, p.signs.length, []⟩]), aA p (psz p) :: x', y) else match nxt y with
   | q :: y' => if q.kind = 2 then some (([⟨1, q.signs.length, []⟩], [cq q (psz q)]), p :: x', aA q (psz q) :: y') else
       some ((if q.kind = 1 then [cq p (min (psz p) (psz q))] else [],if p.kind = 1 then [cq q (min (psz p) (psz q))] else []),aA p (min (psz p) (psz q)) :: x',aA q (min (psz p) (psz q)) :: y')
   | []=>none
 | [] => match nxt y with
   | q :: y'=>if q.kind = 2 then some (([⟨1,q.signs.length,[]⟩],[cq q (psz q)]),[],aA q (psz q) :: y') else none
   | []=>none
structure TInv (x y : List Part) : Prop where
 px : ∀ p∈x,ai p
 py : ∀ p∈y,ai p
 b : frs x = frs y
structure TNext (x y : List Part) (r : XR) : Prop where
 inv : TInv r.2.1 r.2.2
 dec : tsz r.2.1 + tsz r.2.2 < tsz x + tsz y
 okx : ∀ p∈r.1.1,ai p
 oky : ∀ p∈r.1.2,ai p
 lenx : r.1.1.length<=1
 leny : r.1.2.length<=1
theorem wH {p : Part} (h : ai p) : ai ⟨1,p.signs.length,[]⟩:=by
 have:=h.bounds;exact .inl ⟨.inl rfl,by simp only;omega,rfl⟩
theorem cS {x y : List Part} (hi : TInv x y) {r : XR} (h : cM x y = some r) : TNext x y r:=by
 have hx:=mB x;have hy:=mB y;have hxt:=eI x;have hyf:=eI y;have hb:=hi.b;unfold cM at h
 cases ex : nxt x with
 | nil =>
   rw [ex] at h hx hxt
   cases ey : nxt y with
   | nil=>simp [ey] at h
   | cons q y' =>
     rw [ey] at hy hyf;have hq:=cf hi.py ey;have hp:=bE ey;simp only [ey] at h
     split at h
     ·rename_i k
      cases h
      have hs:=dJ hq.1 (Nat.le_refl _);refine ⟨⟨by simp,d7 hi.py ey (Nat.le_refl _),?_⟩,?_,?_,?_,by simp,by simp⟩
      ·simp [frs,k] at hxt hyf ⊢;omega
      ·simp [tsz] at hx hy ⊢;omega
      ·intro p hp;simp at hp;subst hp;exact wH hq.1
      ·intro p hp;simp at hp;subst hp;exact fA hq.1 (Nat.le_refl _)
     ·cases h
 | cons p x' =>
   rw [ex] at h hx hxt;have hp:=cf hi.px ex;have hpp:=bE ex;simp only at h
   split at h
   ·rename_i k
    cases h
    have hs:=dJ hp.1 (Nat.le_refl _);refine ⟨⟨d7 hi.px ex (Nat.le_refl _),hi.py,?_⟩,?_,?_,?_,by simp,by simp⟩
    ·simp [frs,k] at hxt ⊢;omega
    ·simp [tsz] at hx ⊢;omega
    ·intro q hq;simp at hq;subst hq;exact fA hp.1 (Nat.le_refl _)
    ·intro q hq;simp at hq;subst hq;exact wH hp.1
   ·rename_i k3
    cases ey : nxt y with
    | nil=>simp [ey] at h
    | cons q y' =>
      rw [ey] at hy hyf;have hq:=cf hi.py ey;have hqp:=bE ey;simp only [ey] at h
      split at h
      ·rename_i k
       cases h
       have hs:=dJ hq.1 (Nat.le_refl _);refine ⟨⟨hp.2,d7 hi.py ey (Nat.le_refl _),?_⟩,?_,?_,?_,by simp,by simp⟩
       ·simp [frs,k,k3] at hxt hyf ⊢;omega
       ·simp [tsz] at hx hy ⊢;omega
       ·intro p hp;simp at hp;subst hp;exact wH hq.1
       ·intro p hp;simp at hp;subst hp;exact fA hq.1 (Nat.le_refl _)
      ·rename_i k2
       cases h
       have hn1 : min (psz p) (psz q)<=psz p:=by omega
       have hn2 : min (psz p) (psz q)<=psz q:=by omega
       have hs1:=dJ hp.1 hn1;have hs2:=dJ hq.1 hn2;refine ⟨⟨d7 hi.px ex hn1,d7 hi.py ey hn2,?_⟩,?_,?_,?_,?_,?_⟩
       ·simp [frs,k2,k3] at hxt hyf ⊢;omega
       ·simp [tsz] at hx hy ⊢;omega
       ·intro r hr
        simp only at hr
        split at hr
        ·simp at hr;subst hr;exact fA hp.1 hn1
        ·simp at hr
       ·intro r hr
        simp only at hr
        split at hr
        ·simp at hr;subst hr;exact fA hq.1 hn2
        ·simp at hr
       ·simp only;split<;>simp
       ·simp only;split<;>simp
noncomputable def xfK : Nat->List Part->List Part->List Part × List Part
 | 0,_,_=>([],[])
 | k + 1, x, y => match cM x y with
   | none=>([],[])
   | some r=>(r.1.1 ++ (xfK k r.2.1 r.2.2).1,r.1.2 ++ (xfK k r.2.1 r.2.2).2)
noncomputable def xf (x y : List Part) : List Part × List Part:=xfK (tsz x + tsz y) x y
theorem Ar : ∀ (k m : Nat) {x y : List Part},TInv x y->tsz x + tsz y<=k->tsz x + tsz y<=m->xfK k x y = xfK m x y
 | 0,0,_,_,_,_,_=>rfl
 | k + 1, 0, x, y, hi, h, h2 => by
   rw [xfK,xfK]
   cases hs : cM x y with
   | none=>rfl
   | some r=>have:=(cS hi hs).dec;omega
 | 0, m + 1, x, y, hi, h, h2 => by
   rw [xfK,xfK]
   cases hs : cM x y with
   | none=>rfl
   | some r=>have:=(cS hi hs).dec;omega
 | k + 1, m + 1, x, y, hi, h, h2 => by
   rw [xfK,xfK]
   cases hs : cM x y with
   | none=>rfl
   | some r =>
     have hn:=cS hi hs;have:=hn.dec;simp only;rw [Ar k m hn.inv (by omega) (by omega)]
theorem xL {x y : List Part} (h : cM x y = none) : xf x y = ([],[]):=by
 unfold xf
 cases tsz x + tsz y with
 | zero=>rfl
 | succ k=>rw [xfK,h]
theorem Ds {x y : List Part} (hi : TInv x y) {r : XR} (h : cM x y = some r) : xf x y = (r.1.1 ++ (xf r.2.1 r.2.2).1,r.1.2 ++ (xf r.2.1 r.2.2).2):=by
 have hn:=cS hi h;have hd:=hn.dec;unfold xf;obtain ⟨k,hk⟩ : ∃ k,tsz x + tsz y = k + 1:=⟨tsz x + tsz y - 1,by omega⟩;rw [hk,xfK,h];simp only;rw [Ar k (tsz r.2.1 + tsz r.2.2) hn.inv (by omega) (by omega)]
theorem tE : ∀ {o : List Part},(∀ p∈o,ai p)->(frs o : Int) = bp (jk 2) o
 | [],_=>rfl
 | p :: o, h => by
   have ih:=tE (λq hq=>h q (List.mem_cons_of_mem _ hq));have hp:=dG (h p (List.mem_cons_self ..));simp only [frs,bp,jk]
   split<;>simp<;>omega
theorem sQ : ∀ {o : List Part},(∀ p∈o,ai p)->(tos o : Int) = bp (jk 3) o
 | [],_=>rfl
 | p :: o, h => by
   have ih:=sQ (λq hq=>h q (List.mem_cons_of_mem _ hq));have hp:=dG (h p (List.mem_cons_self ..));simp only [tos,bp,jk]
   split<;>simp<;>omega
theorem fF {o : List Part} (h : aK o) : (frs o : Int) = az o:=by
 rw [tE h.1.1,dS (λp hp=>Iw (h.1.1 p hp)),gN];unfold az bJ;rw [if_pos h.1]
theorem jO {o : List Part} (h : aK o) : (tos o : Int) = cN o:=by
 rw [sQ h.1.1,dS (λp hp=>Iv (h.1.1 p hp)),gN];unfold cN bJ;rw [if_pos h.1]
theorem vZ : ∀ (o : List Part),tsz o<=frs o + tos o
 | []=>by simp [tsz]
 | p :: o => by
   have:=vZ o;simp only [tsz,frs,tos]
   split<;>split<;>omega
theorem jN {o : List Part} (h : aK o) : tsz o<=400:=by
 have h1:=vZ o;have h2:=fF h;have h3:=jO h;have:=h.2;omega
theorem tP {a b : List Part} (ha : aK a) (hb : aK b) (h : cN a = az b) : CInv a b:=by
 have h2:=fF hb;have h3:=jO ha;exact ⟨ha.1.1,hb.1.1,by omega⟩
theorem mf {a b : List Part} (ha : aK a) (hb : aK b) (h : az a = az b) : TInv a b:=by
 have h2:=fF hb;have h3:=fF ha;exact ⟨ha.1.1,hb.1.1,by omega⟩
open Classical in
noncomputable def aW (a b : List Part) : List Part × Bool:=
 if aK a/\aK b/\cN a = az b then (if aK (normal (cmp a b)) then (normal (cmp a b),true) else ([],false)) else ([],false)
open Classical in
noncomputable def ac (a b : List Part) : List Part × List Part × Bool:=
 if aK a/\aK b/\az a = az b then (if aK (normal (xf a b).1)/\aK (normal (xf a b).2) then (normal (xf a b).1,normal (xf a b).2,true) else ([],[],false)) else ([],[],false)
open Go.AM
def ab (d : Doc) : Int:=Go.IntKind.i64.wrap (d.fr + d.list.length)
def ar (r : Rep) : Prop:=(1<=r.client/\r.client<=8)/\(0<=r.seq/\r.seq<=999999999)/\(0<=r.rev/\r.rev<=999999999)/\cp r.text/\cI r.sent/\cI r.buf/\az r.sent = r.text.length/\az r.buf = cN r.sent/\(if r.has then r.seq≠0 else idle r.sent)
theorem cE (r : Rep) (hl : aX r<=2 ^ 40) : ak Tryz.prog 151 [.agg r.row] (.one (.c (vb (ar r)) 1)):=by
 refine pci ae Tryz.func151 (λw0 base=>?_);unfold aX at hl;simp [Rep.row];intros;refine aa.pure (bC r.client 1 8) (by simp) ?_;by_cases c1 : 1<=r.client/\r.client<=8
 rotate_left
 ·have e : dc (1<=r.client/\r.client<=8) = false:=by rw [aC];exact c1
  have hn : dc (ar r) = false:=by rw [aC];exact λh=>c1 h.1
  simp [e,hn]
 simp [c1];refine aa.pure (bC r.seq 0 999999999) (by simp) ?_;by_cases c2 : 0<=r.seq/\r.seq<=999999999
 rotate_left
 ·have e : dc (0<=r.seq/\r.seq<=999999999) = false:=by rw [aC];exact c2
  have hn : dc (ar r) = false:=by rw [aC];exact λh=>c2 h.2.1
  simp [e,hn]
 simp [c2];refine aa.pure (bC r.rev 0 999999999) (by simp) ?_;by_cases c3 : 0<=r.rev/\r.rev<=999999999
 rotate_left
 ·have e : dc (0<=r.rev/\r.rev<=999999999) = false:=by rw [aC];exact c3
  have hn : dc (ar r) = false:=by rw [aC];exact λh=>c3 h.2.2.1
  simp [e,hn]
 simp [c3];refine aa.pure (gC r.text (by omega)) (by simp) ?_;by_cases c4 : cp r.text
 rotate_left
 ·have hn : dc (ar r) = false:=by rw [aC];exact λh=>c4 h.2.2.2.1
  simp [c4,hn]
 simp [c4];refine aa.pure (jd r.sent (by omega)) (by simp) ?_;by_cases c5 : cI r.sent
 rotate_left
 ·have hn : dc (ar r) = false:=by rw [aC];exact λh=>c5 h.2.2.2.2.1
  simp [c5,hn]
 simp [c5];refine aa.pure (jd r.buf (by omega)) (by simp) ?_;by_cases c6 : cI r.buf
 rotate_left
 ·have hn : dc (ar r) = false:=by rw [aC];exact λh=>c6 h.2.2.2.2.2.1
  simp [c6,hn]
 simp [c6];refine a9.quiet eok mix (by kernel_rfl) ?_;simp;refine ⟨_,_,dz r.sent (by omega),by simp,?_⟩;by_cases c7 : az r.sent = r.text.length
 rotate_left
 ·have hn : dc (ar r) = false:=by rw [aC];exact λh=>c7 h.2.2.2.2.2.2.1
  simp [c7,hn]
 simp [c7];refine ⟨_,_,dz r.buf (by omega),by simp,?_⟩;simp;refine ⟨_,_,jc r.sent (by omega),by simp,?_⟩;by_cases c8 : az r.buf = cN r.sent
 rotate_left
 ·have hn : dc (ar r) = false:=by rw [aC];exact λh=>c8 h.2.2.2.2.2.2.2.1
  simp [c8,hn]
 simp [c8]
 cases ch : r.has
 ·have e : dc (ar r) = dc (idle r.sent):=gU ⟨λh=>by have:=h.2.2.2.2.2.2.2.2;rw [ch] at this;simpa using this,λh=>⟨c1,c2,c3,c4,c5,c6,c7,c8,by rw [ch];simpa using h⟩⟩
  simp;refine aa.pure (lV r.sent (by omega)) (by simp) ?_;simp;exact e
 ·have e : dc (ar r) = dc (r.seq≠0):=gU ⟨λh=>by have:=h.2.2.2.2.2.2.2.2;rw [ch] at this;simpa using this,λh=>⟨c1,c2,c3,c4,c5,c6,c7,c8,by rw [ch];simpa using h⟩⟩
  simp [e];by_cases h0 : r.seq = 0<;>simp [h0]
theorem dg (r : Rep) (hl : aX r<=2 ^ 40) : ak Tryz.prog 369 [.agg r.row] (.one (.c (vb (ar r)) 1)):=by
 refine pci ae Tryz.func369 (λw0 base=>?_);unfold aX at hl;simp [Rep.row];intros;refine aa.pure (cF r.client 1 8) (by simp) ?_;by_cases c1 : 1<=r.client/\r.client<=8
 rotate_left
 ·have e : dc (1<=r.client/\r.client<=8) = false:=by rw [aC];exact c1
  have hn : dc (ar r) = false:=by rw [aC];exact λh=>c1 h.1
  simp [e,hn]
 simp [c1];refine aa.pure (cF r.seq 0 999999999) (by simp) ?_;by_cases c2 : 0<=r.seq/\r.seq<=999999999
 rotate_left
 ·have e : dc (0<=r.seq/\r.seq<=999999999) = false:=by rw [aC];exact c2
  have hn : dc (ar r) = false:=by rw [aC];exact λh=>c2 h.2.1
  simp [e,hn]
 simp [c2];refine aa.pure (cF r.rev 0 999999999) (by simp) ?_;by_cases c3 : 0<=r.rev/\r.rev<=999999999
 rotate_left
 ·have e : dc (0<=r.rev/\r.rev<=999999999) = false:=by rw [aC];exact c3
  have hn : dc (ar r) = false:=by rw [aC];exact λh=>c3 h.2.2.1
  simp [e,hn]
 simp [c3];refine aa.pure (gv r.text (by omega)) (by simp) ?_;by_cases c4 : cp r.text
 rotate_left
 ·have hn : dc (ar r) = false:=by rw [aC];exact λh=>c4 h.2.2.2.1
  simp [c4,hn]
 simp [c4];refine aa.pure (iY r.sent (by omega)) (by simp) ?_;by_cases c5 : cI r.sent
 rotate_left
 ·have hn : dc (ar r) = false:=by rw [aC];exact λh=>c5 h.2.2.2.2.1
  simp [c5,hn]
 simp [c5];refine aa.pure (iY r.buf (by omega)) (by simp) ?_;by_cases c6 : cI r.buf
 rotate_left
 ·have hn : dc (ar r) = false:=by rw [aC];exact λh=>c6 h.2.2.2.2.2.1
  simp [c6,hn]
 simp [c6];refine a9.quiet eok mix (by kernel_rfl) ?_;simp;refine ⟨_,_,cW r.sent (by omega),by simp,?_⟩;by_cases c7 : az r.sent = r.text.length
 rotate_left
 ·have hn : dc (ar r) = false:=by rw [aC];exact λh=>c7 h.2.2.2.2.2.2.1
  simp [c7,hn]
 simp [c7];refine ⟨_,_,cW r.buf (by omega),by simp,?_⟩;simp;refine ⟨_,_,fS r.sent (by omega),by simp,?_⟩;by_cases c8 : az r.buf = cN r.sent
 rotate_left
 ·have hn : dc (ar r) = false:=by rw [aC];exact λh=>c8 h.2.2.2.2.2.2.2.1
  simp [c8,hn]
 simp [c8]
 cases ch : r.has
 ·have e : dc (ar r) = dc (idle r.sent):=gU ⟨λh=>by have:=h.2.2.2.2.2.2.2.2;rw [ch] at this;simpa using this,λh=>⟨c1,c2,c3,c4,c5,c6,c7,c8,by rw [ch];simpa using h⟩⟩
  simp;refine aa.pure (pt r.sent (by omega)) (by simp) ?_;simp;exact e
 ·have e : dc (ar r) = dc (r.seq≠0):=gU ⟨λh=>by have:=h.2.2.2.2.2.2.2.2;rw [ch] at this;simpa using this,λh=>⟨c1,c2,c3,c4,c5,c6,c7,c8,by rw [ch];simpa using h⟩⟩
  simp [e];by_cases h0 : r.seq = 0
  ·simp [h0]
  ·have : 0 < r.seq:=by omega
   simp [h0,this]
def eR (r : Rep) : Prop:=ar r/\r.has = false/\idle r.buf
theorem pT (r : Rep) (hl : aX r<=2 ^ 40) : ak Tryz.prog 56 [.agg r.row] (.one (.c (vb (eR r)) 1)):=by
 refine pci ae Tryz.func56 (λw0 base=>?_);simp [Rep.row];intros;refine aa.pure (cE r hl) (by simp [Rep.row]) ?_;unfold aX at hl;by_cases c1 : ar r
 rotate_left
 ·simp [c1,eR]
 simp [c1]
 cases ch : r.has
 ·simp
  refine aa.pure (lV r.buf (by omega)) (by simp) ?_;simp [eR,c1,ch]
 ·simp [ch,eR]
theorem gV (l : List Int) (hl : l.length<=2 ^ 40) : ak Tryz.prog 172 [.c (.s (l.map aE))] (.one (.c (.s (l.map aE)) 1)):=by
 refine pci ae Tryz.func172 (λw0 base=>?_);simp;omega
def Rep.zero : Rep:=⟨0,0,0,[],false,[],[]⟩
noncomputable def bD (c s v : Int) (t : List Int) : Rep:=⟨c,s,v,t,false,aZ t.length,aZ t.length⟩
open Classical in
noncomputable def eN (r : Rep) : Rep × Bool:=if ar r then (r,true) else (Rep.zero,false)
noncomputable def bK (c s v : Int) (t : List Int) : Rep × Bool:=eN (bD c s v t)
theorem nJ (n : Int) : nL al (aZ n)<=1:=by
 unfold aZ
 split<;>simp [nL,bX,al]
theorem nD (c s v : Int) (t : List Int) : aX (bD c s v t)<=t.length + 2:=by
 have h:=nJ t.length;unfold aX bD;simp only;omega
theorem Rep.zero_n : aX Rep.zero = 0:=rfl
theorem tl (a0 a1 a2 : Int) (a3 : List Int) (n3 : a3.length<=2 ^ 20) :
 ak Tryz.prog 148 [.c (vi a0),.c (vi a1),.c (vi a2),.c (.s (a3.map aE))] (.tup [.agg (bK a0 a1 a2 a3).1.res,.c (.v (.bool (bK a0 a1 a2 a3).2)) 1]):=by
 refine pci ae Tryz.func148 (λw0 base=>?_);simp;intro b8;refine aa.pure (gV a3 (by omega)) (by simp) ?_;simp;intro H1;refine aa.pure (gb a3.length) (by simp) ?_;simp;intro H2;refine aa.pure (gb a3.length) (by simp) ?_;simp;intro H3;refine inl ae Tryz.func243 20000 (λw1 F=>?_);simp;intros;have hn:=nD a0 a1 a2 a3;refine aa.pure (cE (bD a0 a1 a2 a3) (by omega)) (by simp [Rep.row,bD]) ?_;by_cases h : ar (bD a0 a1 a2 a3)
 ·have e : bK a0 a1 a2 a3 = (bD a0 a1 a2 a3,true):=by unfold bK eN;rw [if_pos h]
  simp [h,e,Rep.res];simp [bD]
 ·have e : bK a0 a1 a2 a3 = (Rep.zero,false):=by unfold bK eN;rw [if_neg h]
  have e2 : dc (ar (bD a0 a1 a2 a3)) = false:=by rw [aC];exact h
  simp [e2,e,Rep.res,Rep.zero]
theorem mj (a0 a1 a2 : Int) (a3 : List Int) (n3 : a3.length<=2 ^ 20) :
 ak Tryz.prog 316 [.c (vi a0),.c (vi a1),.c (vi a2),.c (.s (a3.map aE))] (.tup [.agg (bK a0 a1 a2 a3).1.res,.c (.v (.bool (bK a0 a1 a2 a3).2)) 1]):=by
 refine pci ae Tryz.func316 (λw0 base=>?_);simp;intro b8 b9;refine ⟨by omega,λH1=>?_⟩;refine aa.pure (f9 a3.length) (by simp) ?_;simp;intro H2;refine aa.pure (f9 a3.length) (by simp) ?_;simp;intro H3;refine inl ae Tryz.func366 20000 (λw1 F=>?_);simp;intros;have hn:=nD a0 a1 a2 a3;refine aa.pure (dg (bD a0 a1 a2 a3) (by omega)) (by simp [Rep.row,bD]) ?_;by_cases h : ar (bD a0 a1 a2 a3)
 ·have e : bK a0 a1 a2 a3 = (bD a0 a1 a2 a3,true):=by unfold bK eN;rw [if_pos h]
  simp [h,e,Rep.res];simp [bD]
 ·have e : bK a0 a1 a2 a3 = (Rep.zero,false):=by unfold bK eN;rw [if_neg h]
  have e2 : dc (ar (bD a0 a1 a2 a3)) = false:=by rw [aC];exact h
  simp [e2,e,Rep.res,Rep.zero]
theorem sV (a0 : Int) (_ : pW a0) (a1 : Int) (_ : pW a1) (a2 : Int) (_ : pW a2) (a3 : List Int) (_ : a3.length<=9223372036854775807/\∀ n∈a3,pW n) (n3 : a3.length<=2 ^ 20) : ak Tryz.prog 316 [.c (vi a0),.c (vi a1),.c (vi a2),.c (.s (a3.map aE))] (.tup [.agg (bK a0 a1 a2 a3).1.res,.c (.v (.bool (bK a0 a1 a2 a3).2)) 1]):=mj a0 a1 a2 a3 n3
theorem fc {α β : Type} {f : α->β} {l : List α} {i : Nat} (h : i < l.length) : List.take i (l.map f) ++ [f l[i]] = List.take (i + 1) (l.map f):=by
 rw [List.take_add_one];simp [h]
theorem kz (o : List Part) (hl : nL al o<=2 ^ 30) : ak Tryz.prog 217 [.c (.s (o.map Part.row))] (.one (.c (.s (o.map Part.row)) 3)):=by
 refine pci ae Tryz.func217 (λw0 base=>?_);have hle:=cj hl;simp;refine aT.intro eok (λx : Nat × Hd=>x.1<=o.length) (λx=>⟨22,0,[(8,.v (.int .i64 x.1)),(7,.v (.int .i64 o.length)),(6,.ro (o.map Part.row)),(3,.sl 304 x.2 3 0 x.1)],[(304,.rows x.2 3 ((o.take x.1).map Part.row) true)]⟩) (λx=>o.length - x.1) (0,none) (by simp) (by simp) (λx hi=>?_);obtain ⟨i,H⟩:=x;simp only at hi ⊢;by_cases h : i < o.length
 ·have e : Go.IntKind.i64.wrap ((i : Int) + 1) = ((i + 1 : Nat) : Int):=aB (by omega)
  have hm : min i o.length = i:=by omega
  have hs:=jG hl h;simp [h,Part.row];intro b5;refine aa.pure (gV o[i].signs (by unfold al at hs;omega)) (by simp) ?_;simp [hm];exact ⟨by omega,λH3=>⟨i + 1,by omega,by omega,H3,⟨e,rfl,rfl⟩,rfl,fc (f:=Part.row) h⟩⟩
 ·have : i = o.length:=by omega
  subst this;simp [cut]
theorem gI (o : List Part) (hl : nL al o<=2 ^ 30) : ak Tryz.prog 308 [.c (.s (o.map Part.row))] (.one (.c (.s (o.map Part.row)) 3)):=by
 refine pci ae Tryz.func308 (λw0 base=>?_);have hle:=cj hl;simp;intro b;refine aT.intro eok (λx : Nat × Hd=>x.1<=o.length) (λx=>⟨27,0,[(9,.v (.int .i64 x.1)),(8,.v (.int .i64 o.length)),(7,.ro (o.map Part.row)),(3,.sl 96 x.2 3 0 x.1)],[(96,.rows x.2 3 ((o.take x.1).map Part.row) true)]⟩) (λx=>o.length - x.1) (0,some (b,0,0)) (by simp) (by simp) (λx hi=>?_);obtain ⟨i,H⟩:=x;simp only at hi ⊢;by_cases h : i < o.length
 ·have e : Go.IntKind.i64.wrap ((i : Int) + 1) = ((i + 1 : Nat) : Int):=aB (by omega)
  have hm : min i o.length = i:=by omega
  have hs:=jG hl h;unfold al at hs;simp [h,Part.row];intro b5;refine drw eok mix [0,1,2,3,4,6,7] [5,8,9,10,11,12] (.c 7 5 0 127 (.c 7 8 1 126 (.c 7 9 20 106 (.c 7 10 0 106 (.c 7 11 64 42 (.c 7 12 42 0 (.l 7 0) .s) .s) .s) .s) .s) .s) ?_;simp [hm];exact ⟨by omega,by omega,λH3=>⟨i + 1,by omega,by omega,H3,⟨e,rfl,rfl⟩,rfl,fc (f:=Part.row) h⟩⟩
 ·have : i = o.length:=by omega
  subst this;simp [cut]
def Call.zero : Call:=⟨0,⟨#[]⟩,0,0,0,[],[]⟩
def cV (r : Rep) : Call:=⟨2,⟨#[]⟩,r.client,r.seq,r.rev,r.sent,[]⟩
theorem po (r : Rep) (hl : aX r<=2 ^ 30) : ak Tryz.prog 246 [.agg r.row] (.one (.agg (cV r).res)):=by
 refine pci ae Tryz.func246 (λw0 base=>?_);unfold aX at hl;simp [Rep.row];intros;refine drw eok mix [0,1,2,3,4,5,6,7] [8,9,10] (.c 8 8 1 254 (.c 8 9 84 170 (.c 8 10 170 0 (.l 8 0) .s) .s) .s) ?_;simp;refine aa.pure (kz r.sent (by omega)) (by simp) ?_;simp [cV,Call.res]
theorem sb (r : Rep) (hl : aX r<=2 ^ 30) : ak Tryz.prog 372 [.agg r.row] (.one (.agg (cV r).res)):=by
 refine pci ae Tryz.func372 (λw0 base=>?_);unfold aX at hl;simp [Rep.row];intros;refine drw eok mix [0,1,2,3,4,5,6,7] [8,9,10] (.c 8 8 1 254 (.c 8 9 84 170 (.c 8 10 170 0 (.l 8 0) .s) .s) .s) ?_;simp;refine aa.pure (gI r.sent (by omega)) (by simp) ?_;simp [cV,Call.res]
theorem Call.zero_n : KS Call.zero = 0:=rfl
def dp (t : List Int) (s : List Int × Int) (p : Part) : List Int × Int:=
 if p.kind = 1 then (s.1 ++ (t.drop s.2.toNat).take p.n.toNat,s.2 + p.n) else if p.kind = 2 then (s.1 ++ p.signs,s.2) else (s.1,s.2 + p.n)
def dB (o : List Part) (t : List Int) : List Int × Int:=o.foldl (dp t) ([],0)
theorem kX {o : List Part} {t : List Int} {i : Nat} (h : i < o.length) : dB (o.take (i + 1)) t = dp t (dB (o.take i) t) o[i]:=by
 unfold dB;rw [<- List.take_append_getElem h,List.foldl_append];rfl
def di (o : List Part) (t : List Int) : Prop:=aK o/\cp t/\az o = t.length
open Classical in
noncomputable def apply (o : List Part) (t : List Int) : List Int × Bool:=if di o t then ((dB o t).1,true) else ([],false)
theorem kD {o : List Part} {t : List Int} (ho : ∀ p∈o,ai p) : ∀ (i : Nat),i<=o.length->(dB (o.take i) t).2 = bp fK (o.take i) + bp fD (o.take i)/\(dB (o.take i) t).1.length<=200 * i
 | 0,_=>by simp [dB,bp]
 | i + 1, hi => by
   have hlt : i < o.length:=by omega
   obtain ⟨h1,h2⟩:=kD ho i (by omega);have hb:=(ho _ (List.getElem_mem hlt)).bounds;rw [kX hlt,ep hlt,ep hlt];generalize dB (o.take i) t = s at h1 h2;obtain ⟨L,a⟩:=s;simp only at h1 h2;generalize bp fK (o.take i) = x1 at h1 ⊢;generalize bp fD (o.take i) = x2 at h1 ⊢;unfold dp fK fD;by_cases k1 : o[i].kind = 1
   ·simp [k1]
    omega
   ·by_cases k2 : o[i].kind = 2
    ·simp [k2];omega
    ·simp [k1,k2];omega
theorem gu {f : Part->Int} (hf : ∀ p,ai p->0<=f p) : ∀ {o : List Part} (_ : ∀ p∈o,ai p) (i : Nat),bp f (o.take i)<=bp f o
 | [],_,i=>by simp
 | p :: o, ho, 0 => by
   have h1:=hf p (ho p (List.mem_cons_self ..));have h2:=gu hf (o:=o) (λq hq=>ho q (List.mem_cons_of_mem _ hq)) 0;simp only [List.take_zero,bp] at h2 ⊢;omega
 | p :: o, ho, i + 1 => by
   have h2:=gu hf (o:=o) (λq hq=>ho q (List.mem_cons_of_mem _ hq)) i;simp only [List.take_succ_cons,bp];omega
theorem qy {o : List Part} {t : List Int} (h : di o t) {i : Nat} (hi : i < o.length) : 0<=(dB (o.take i) t).2/\(o[i].kind≠2->(dB (o.take i) t).2 + o[i].n<=t.length)/\(dB (o.take i) t).2<=t.length:=by
 have ho:=h.1.1.1;have h1:=(kD (t:=t) ho i (by omega)).1;have hf : az o = bp fK o + bp fD o:=by unfold az bJ;rw [if_pos h.1.1]
 have h2:=gu (λp hp=>(CE hp).1) ho (i + 1);have h3:=gu (λp hp=>(CF hp).1) ho (i + 1);have h4:=dk (f:=fK) (λp h=>CE h) (iW ho i);have h5:=dk (f:=fD) (λp h=>CF h) (iW ho i);have h6:=ep (f:=fK) hi;have h7:=ep (f:=fD) hi;have h8:=h.2.2;have hb:=(ho _ (List.getElem_mem hi)).bounds;have k1:=CE (ho _ (List.getElem_mem hi));have k2:=CF (ho _ (List.getElem_mem hi));refine ⟨by omega,λhk=>?_,by omega⟩
 have : fK o[i] + fD o[i] = o[i].n:=by
  unfold fK fD;by_cases c1 : o[i].kind = 1
  ·simp [c1]
  ·simp [c1,hk]
 omega
theorem gk (o : List Part) (t : List Int) (hl : nL al o<=2 ^ 40) (ht : t.length<=2 ^ 40) : ak Tryz.prog 254 [.c (.s (o.map Part.row)),.c (.s (t.map aE))] (.tup [.c (.s ((apply o t).1.map aE)) 1,.c (.v (.bool (apply o t).2)) 1]):=by
 refine pci ae Tryz.func254 (λw0 base=>?_);simp;have no : ¬ di o t->apply o t = ([],false):=λh=>by unfold apply;rw [if_neg h]
 refine aa.pure (cl o hl) (by simp) ?_;by_cases c1 : aK o
 rotate_left
 ·have e : dc (aK o) = false:=by rw [aC];exact c1
  simp [e,no (λh=>c1 h.1)]
 simp [c1];refine aa.pure (gC t ht) (by simp) ?_;by_cases c2 : cp t
 rotate_left
 ·have e : dc (cp t) = false:=by rw [aC];exact c2
  simp [e,no (λh=>c2 h.2.1)]
 simp [c2];refine aa.pure (dz o hl) (by simp) ?_;by_cases c3 : az o = t.length
 rotate_left
 ·simp [c3,no (λh=>c3 h.2.2)]
 have hf : di o t:=⟨c1,c2,c3⟩;have e : apply o t = ((dB o t).1,true):=by unfold apply;rw [if_pos hf]
 have ho:=c1.1.1;have hlen:=c1.1.2;simp [c3,e];refine aT.intro eok (λx : Nat × Hd=>x.1<=o.length) (λx=>⟨60,0,[(27,.v (.int .i64 x.1)),(26,.v (.int .i64 o.length)),(25,.ro (o.map Part.row)),(7,.v (.int .i64 (dB (o.take x.1) t).2)),(6,.sl 752 x.2 1 0 (dB (o.take x.1) t).1.length),(1,.ro (t.map aE))],[(752,.rows x.2 1 ((dB (o.take x.1) t).1.map aE) true)]⟩) (λx=>o.length - x.1) (0,none) (by simp) (by simp [dB]) (λx hi=>?_);obtain ⟨i,H⟩:=x;simp only at hi ⊢;by_cases h : i < o.length
 ·have hin:=qy hf h
  have hat:=kD (t:=t) ho i hi;have hb:=(ho _ (List.getElem_mem h)).bounds;have hs:=kX (t:=t) h;generalize dB (o.take i) t = s at hin hat hs;obtain ⟨L,a⟩:=s;simp only at hin hat hs;obtain ⟨a',rfl⟩ : ∃ a' : Nat,a = a':=⟨a.toNat,by omega⟩;obtain ⟨n,hn⟩ : ∃ n : Nat,o[i].n = n:=⟨o[i].n.toNat,by omega⟩;have e : Go.IntKind.i64.wrap ((i : Int) + 1) = ((i + 1 : Nat) : Int):=aB (by omega);have ea : Go.IntKind.i64.wrap ((a' : Int) + n) = (a' : Int) + n:=Go.IntWalk.i64_in _ (by omega);rw [hn] at hin;simp [h,Part.row];intro b9;by_cases k1 : o[i].kind = 1
  ·have hle : a' + n<=t.length:=by have:=hin.2.1 (by omega);omega
   have hst : dp t (L,(a' : Int)) o[i] = (L ++ (t.drop a').take n,(a' : Int) + n):=by simp [dp,k1,hn]
   rw [hst] at hs;obtain ⟨m,hm⟩ : ∃ m,(t.drop a').take n = m:=⟨_,rfl⟩;have hcut : cut (t.map aE) a' n = m.map aE:=by rw [eg,<- hm];simp
   have hlen2 : m.length = n:=by rw [<- hm];simp;omega
   rw [hm] at hs;simp [k1,hn,ea,hle,hcut];refine ⟨by omega,λH2=>⟨i + 1,by omega,by omega,H2,?_⟩⟩;rw [hs];simp [e]
  ·by_cases k3 : o[i].kind = 3
   ·have hst : dp t (L,(a' : Int)) o[i] = (L,(a' : Int) + n):=by simp [dp,k3,hn]
    rw [hst] at hs;simp [k3,hn,ea];refine ⟨i + 1,by omega,by omega,H,?_⟩;rw [hs];simp [e]
   ·have k2 : o[i].kind = 2:=by omega
    have hst : dp t (L,(a' : Int)) o[i] = (L ++ o[i].signs,(a' : Int)):=by simp [dp,k2]
    rw [hst] at hs;simp [k2];refine ⟨by omega,λH2=>⟨i + 1,by omega,by omega,H2,?_⟩⟩;rw [hs];simp [e]
 ·have he : o.take i = o:=List.take_of_length_le (by omega)
  rw [he];simp [h]
theorem zq (o : List Part) (t : List Int) (hl : nL al o<=2 ^ 40) (ht : t.length<=2 ^ 40) : ak Tryz.prog 352 [.c (.s (o.map Part.row)),.c (.s (t.map aE))] (.one (.c (vb (di o t)) 1)):=by
 refine pci ae Tryz.func352 (λw0 base=>?_);simp;refine aa.pure (bS o hl) (by simp) ?_;by_cases c1 : aK o
 rotate_left
 ·simp [c1,di]
 simp [c1];refine aa.pure (gv t ht) (by simp) ?_;by_cases c2 : cp t
 rotate_left
 ·simp [c2,di]
 simp [c2];refine aa.pure (cW o hl) (by simp) ?_;simp [di,c1,c2]
theorem dQ (o : List Part) (t : List Int) (hl : nL al o<=2 ^ 40) (ht : t.length<=2 ^ 40) : ak Tryz.prog 283 [.c (.s (o.map Part.row)),.c (.s (t.map aE))] (.tup [.c (.s ((apply o t).1.map aE)) 1,.c (.v (.bool (apply o t).2)) 1]):=by
 refine pci ae Tryz.func283 (λw0 base=>?_);simp;refine aa.pure (zq o t hl ht) (by simp) ?_;by_cases hf : di o t
 rotate_left
 ·have e : dc (di o t) = false:=by rw [aC];exact hf
  have e2 : apply o t = ([],false):=by unfold apply;rw [if_neg hf]
  simp [e,e2]
 have e : apply o t = ((dB o t).1,true):=by unfold apply;rw [if_pos hf]
 have ho:=hf.1.1.1;have hlen:=hf.1.1.2;simp [hf,e];intro b;refine aT.intro eok (λx : Nat × Hd=>x.1<=o.length) (λx=>⟨50,0,[(17,.v (.int .i64 x.1)),(16,.v (.int .i64 o.length)),(15,.ro (o.map Part.row)),(7,.v (.int .i64 (dB (o.take x.1) t).2)),(6,.sl 224 x.2 1 0 (dB (o.take x.1) t).1.length),(1,.ro (t.map aE))],[(224,.rows x.2 1 ((dB (o.take x.1) t).1.map aE) true)]⟩) (λx=>o.length - x.1) (0,some (b,0,0)) (by simp) (by simp [dB]) (λx hi=>?_);obtain ⟨i,H⟩:=x;simp only at hi ⊢;by_cases h : i < o.length
 ·have hin:=qy hf h
  have hat:=kD (t:=t) ho i hi;have hb:=(ho _ (List.getElem_mem h)).bounds;have hs:=kX (t:=t) h;generalize dB (o.take i) t = s at hin hat hs;obtain ⟨L,a⟩:=s;simp only at hin hat hs;obtain ⟨a',rfl⟩ : ∃ a' : Nat,a = a':=⟨a.toNat,by omega⟩;obtain ⟨n,hn⟩ : ∃ n : Nat,o[i].n = n:=⟨o[i].n.toNat,by omega⟩;have e : Go.IntKind.i64.wrap ((i : Int) + 1) = ((i + 1 : Nat) : Int):=aB (by omega);have ea : Go.IntKind.i64.wrap ((a' : Int) + n) = (a' : Int) + n:=Go.IntWalk.i64_in _ (by omega);rw [hn] at hin;simp [h,Part.row];intro b9;by_cases k1 : o[i].kind = 1
  ·have hle : a' + n<=t.length:=by have:=hin.2.1 (by omega);omega
   have hst : dp t (L,(a' : Int)) o[i] = (L ++ (t.drop a').take n,(a' : Int) + n):=by simp [dp,k1,hn]
   rw [hst] at hs;obtain ⟨m,hm⟩ : ∃ m,(t.drop a').take n = m:=⟨_,rfl⟩;have hcut : cut (t.map aE) a' n = m.map aE:=by rw [eg,<- hm];simp
   have hlen2 : m.length = n:=by rw [<- hm];simp;omega
   rw [hm] at hs;simp [k1,hn,ea,hle,hcut];refine ⟨by omega,λH2=>⟨i + 1,by omega,by omega,H2,?_⟩⟩;rw [hs];simp [e]
  ·by_cases k2 : o[i].kind = 2
   ·have hst : dp t (L,(a' : Int)) o[i] = (L ++ o[i].signs,(a' : Int)):=by simp [dp,k2]
    rw [hst] at hs;simp [k2];refine ⟨by omega,λH2=>⟨i + 1,by omega,by omega,H2,?_⟩⟩;rw [hs];simp [e]
   ·have k3 : o[i].kind = 3:=by omega
    have hst : dp t (L,(a' : Int)) o[i] = (L,(a' : Int) + n):=by simp [dp,k3,hn]
    rw [hst] at hs;simp [k1,k2,hn,ea];refine ⟨i + 1,by omega,by omega,H,?_⟩;rw [hs];simp [e]
 ·have he : o.take i = o:=List.take_of_length_le (by omega)
  rw [he];simp [h]
theorem fo (o : List Part) (t : List Int) : (apply o t).1.length<=2 ^ 17:=by
 unfold apply
 split
 ·rename_i h
  have h1:=(kD (t:=t) h.1.1.1 o.length (by omega)).2;rw [List.take_length] at h1;have:=h.1.1.2;simp only;omega
 ·simp
abbrev dV (o : List Part) : List CD:=[.s (o.map Part.row)]
open Classical in
noncomputable def aj : List (List Part)->List Int->Option (List Int)
 | [],t=>some t
 | o :: l,t=>if (apply o t).2 = true then aj l (apply o t).1 else none
open Classical in
noncomputable def bI (l : List (List Part)) (t : List Int) : List Int × Bool:=
 if cp t then match aj l t with
  | some u=>(u,true)
  | none=>([],false)
 else ([],false)
theorem gY {l : List (List Part)} {i : Nat} {u : List Int} (h : i < l.length) : aj (l.drop i) u = if (apply l[i] u).2 = true then aj (l.drop (i + 1)) (apply l[i] u).1 else none:=by
 rw [List.drop_eq_getElem_cons h,aj]
theorem gS (l : List (List Part)) (t : List Int) (hl : l.length<=2 ^ 30) (hs : ∀ o∈l,nL al o<=2 ^ 40) (ht : t.length<=2 ^ 40) : ak Tryz.prog 154 [.c (.s (l.map dV)),.c (.s (t.map aE))] (.tup [.c (.s ((bI l t).1.map aE)) 1,.c (.v (.bool (bI l t).2)) 1]):=by
 refine pci ae Tryz.func154 (λw0 base=>?_);simp;refine aa.pure (gC t ht) (by simp) ?_;by_cases c2 : cp t
 rotate_left
 ·have e : dc (cp t) = false:=by rw [aC];exact c2
  have e2 : bI l t = ([],false):=by unfold bI;rw [if_neg c2]
  simp [e,e2]
 obtain ⟨r,hr⟩ : ∃ r,bI l t = r:=⟨_,rfl⟩;have hr' : (match aj l t with | some u=>(u,true) | none=>([],false)) = r:=by rw [<- hr];unfold bI;rw [if_pos c2]
 rw [hr];simp [c2];refine aa.pure (gV t ht) (by simp) ?_;simp;intro H0
 refine aT.intro eok (λx : Nat × Nat × Hd × List Int=>x.1<=l.length/\x.2.2.2.length<=2 ^ 40/\(match aj (l.drop x.1) x.2.2.2 with | some u=>(u,true) | none=>([],false)) = r)
  (λx=>⟨33,0,[(18,.v (.int .i64 x.1)),(17,.v (.int .i64 l.length)),(16,.ro (l.map dV)),(6,.sl x.2.1 x.2.2.1 1 0 x.2.2.2.length)],[(x.2.1,.rows x.2.2.1 1 (x.2.2.2.map aE) true)]⟩) (λx=>l.length - x.1) (0,240,H0,t) (by simp [ht,hr']) (by simp) (λx hi=>?_)
 obtain ⟨i,K,H,u⟩:=x;simp only at hi ⊢;obtain ⟨hi1,hi2,hi3⟩:=hi;by_cases h : i < l.length
 ·have e : Go.IntKind.i64.wrap ((i : Int) + 1) = ((i + 1 : Nat) : Int):=aB (by omega)
  rw [gY h] at hi3;have hlen:=fo l[i] u;simp [h];refine aa.pure (gk l[i] u (hs _ (List.getElem_mem h)) hi2) (by simp) ?_;generalize apply l[i] u = q at hi3 hlen;obtain ⟨v,ok⟩:=q;simp only at hi3 hlen
  cases ok
  ·simp at hi3
   simp [<- hi3]
  ·simp at hi3
   simp;intro H2;exact ⟨i + 1,400,H2,v,⟨by omega,by omega,hi3⟩,by omega,⟨e,rfl,rfl,rfl⟩,.inl rfl⟩
 ·have hd : l.drop i = []:=List.drop_eq_nil_of_le (by omega)
  rw [hd] at hi3;simp [aj] at hi3;simp [h,<- hi3]
theorem sD {o : List Part} {t : List Int} (h : di o t) : ∀ (i : Nat),i<=o.length->((dB (o.take i) t).1.length : Int) = bp fK (o.take i) + bp fP (o.take i)/\dy (dB (o.take i) t).1
 | 0,_=>by simp [dB,bp,dy]
 | i + 1, hi => by
   have hlt : i < o.length:=by omega
   obtain ⟨h1,h2⟩:=sD h i (by omega);have hin:=qy h hlt;have hpo:=h.1.1.1 _ (List.getElem_mem hlt);have hb:=hpo.bounds;rw [kX hlt,ep hlt,ep hlt];generalize dB (o.take i) t = s at h1 h2 hin;generalize o[i] = p at hin hpo hb;unfold dp;rw [show fK p = (if p.kind = 1 then p.n else 0) from rfl,show fP p = (if p.kind = 2 then (p.signs.length : Int) else 0) from rfl];rcases hb.1 with k | k | k
   ·have:=hin.2.1 (by omega)
    have e : ((t.drop s.2.toNat).take p.n.toNat).length = p.n.toNat:=by simp;omega
    refine ⟨?_,?_⟩
    ·simp only [k,if_true,List.length_append,e]
     have k2 : ¬ (1 : Int) = 2:=by decide
     simp only [k2,if_false];omega
    simp only [k,if_true];intro n hn;rcases List.mem_append.1 hn with hn | hn
    ·exact h2 n hn
    ·exact h.2.1.2 n (List.mem_of_mem_drop (List.mem_of_mem_take hn))
   ·refine ⟨by simp [k];omega,?_⟩
    have k1 : ¬ p.kind = 1:=by omega
    simp only [k,if_true];rw [eZ k] at hpo;intro n hn;rcases List.mem_append.1 hn with hn | hn
    ·exact h2 n hn
    ·exact hpo.2.2 n hn
   ·exact ⟨by simp [k];omega,by simpa [k] using h2⟩
theorem cu {o : List Part} {t : List Int} (h : di o t) : cp (apply o t).1/\((apply o t).1.length : Int) = cN o:=by
 have h1:=sD h o.length (Nat.le_refl _);rw [List.take_length] at h1;have e : apply o t = ((dB o t).1,true):=by unfold apply;rw [if_pos h]
 have ht : cN o = bp fK o + bp fP o:=by unfold cN bJ;rw [if_pos h.1.1]
 have h3:=h.1.2.2;rw [e];refine ⟨⟨by simp only;omega,h1.2⟩,by simp only;omega⟩
theorem cK {o : List Part} {t : List Int} : (apply o t).2 = true ↔ di o t:=by
 unfold apply
 split<;>simp_all
def eP (s : ByteArray) : Prop:=(1<=s.size/\s.size<=8)/\∀ (i : Nat) (h : i < s.size),97<=s[i].toNat/\s[i].toNat<=122
def bg (e : Entry) : Prop:=(1<=e.client/\e.client<=8)/\(1<=e.seq/\e.seq<=1000000000)/\cI e.o
def mt (d : Doc) : Prop:=∀ (i : Nat) (h : i < d.seen.length),(1<=d.seen[i].client/\d.seen[i].client<=8)/\(1<=d.seen[i].seq/\d.seen[i].seq<=1000000000)/\(1<=d.seen[i].rev/\d.seen[i].rev<=ab d)/\(∀ h0 : 0 < i,d.seen[i - 1].client < d.seen[i].client)
def aJ (d : Doc) : Prop:=eP d.name/\(0<=d.fr/\d.fr<=999999000)/\cp d.text/\d.list.length<=8/\(∀ e∈d.list,bg e)/\(aj (d.list.map Entry.o) d.text).isSome = true/\mt d
open Classical in
noncomputable def bc (d : Doc) (rev : Int) : List Int × Bool:=if aJ d/\d.fr<=rev/\rev<=ab d then bI ((d.list.take (rev - d.fr).toNat).map Entry.o) d.text else ([],false)
noncomputable def aV (d : Doc) : List Int:=(bc d (ab d)).1
open Classical in
noncomputable def aG (d : Doc) (c : Int) : Seen × Bool:=match d.seen.find? (λs=>decide (s.client = c)) with
 | some s=>(s,true)
 | none=>(⟨0,0,0⟩,false)
noncomputable def bR (r : Rep) : Rep:=⟨r.client,r.seq + 1,r.rev,r.text,true,r.buf,aZ (cN r.buf)⟩
open Classical in
noncomputable def bN (r : Rep) : Rep × Call × Bool:=if ar r/\r.has = false/\¬ idle r.buf/\r.seq≠999999999 then (bR r,⟨2,⟨#[]⟩,r.client,r.seq + 1,r.rev,r.buf,[]⟩,true) else (Rep.zero,⟨0,⟨#[]⟩,0,0,0,[],[]⟩,false)
end Go.Proofs.YtoldjebobgocpaaGreat
