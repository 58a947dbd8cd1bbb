import Derived.Test.YtoldjebobgocpaaGreatPA
import Derived.Test.YtoldjebobgocpaaGreatNA
namespace Go.Proofs.YtoldjebobgocpaaGreat
set_option maxRecDepth 20000
def psz (p : Part) : Nat:=p.n.toNat + p.signs.length
def bZ (p : Part) (n : Nat) : Part:=if p.kind = 2 then ⟨p.kind,p.n,p.signs.take n⟩ else ⟨p.kind,n,p.signs⟩
def aA (p : Part) (n : Nat) : Part:=if p.kind = 2 then ⟨p.kind,p.n,p.signs.drop n⟩ else ⟨p.kind,p.n - n,p.signs⟩
theorem dr {p : Part} (h : ai p) : (psz p : Int) = p.n + p.signs.length/\psz p<=200:=by
 have hb:=h.bounds;unfold psz;by_cases hk : p.kind = 2
 ·have:=hb.2.2.2.2.1 hk
  omega
 ·have:=hb.2.2.2.2.2 hk
  rw [this];simp;omega
@[simp] theorem H8 {p : Part} {n : Nat} : (bZ p n).kind = p.kind:=by unfold bZ;split<;>rfl
@[simp] theorem FS {p : Part} {n : Nat} : (aA p n).kind = p.kind:=by unfold aA;split<;>rfl
theorem eW {p : Part} (h : ai p) {n : Nat} (hn : n<=psz p) : ai (bZ p n):=by
 have hp:=dr h;unfold bZ;by_cases hk : p.kind = 2
 ·rw [if_pos hk]
  rw [eG hk] at h;refine .inr ⟨hk,h.1,?_,λm hm=>h.2.2 m (List.mem_of_mem_take hm)⟩;simp;omega
 ·rw [if_neg hk]
  have hb:=h.bounds;have hk2 : p.kind = 1\/p.kind = 3:=by omega
  have:=hb.2.2.2.2.2 hk;refine .inl ⟨hk2,?_,this⟩;simp only;omega
theorem tP {p : Part} (h : ai p) {n : Nat} (hn : n<=psz p) : ai (aA p n):=by
 have hp:=dr h;unfold aA;by_cases hk : p.kind = 2
 ·rw [if_pos hk]
  rw [eG hk] at h;refine .inr ⟨hk,h.1,?_,λm hm=>h.2.2 m (List.mem_of_mem_drop hm)⟩;simp;omega
 ·rw [if_neg hk]
  have hb:=h.bounds;have hk2 : p.kind = 1\/p.kind = 3:=by omega
  have:=hb.2.2.2.2.2 hk;refine .inl ⟨hk2,?_,this⟩;rw [this] at hp;simp at hp;simp only;omega
theorem dw {p : Part} (h : ai p) {n : Nat} (hn : n<=psz p) : psz (aA p n) = psz p - n:=by
 have hb:=h.bounds;unfold psz aA at *;by_cases hk : p.kind = 2
 ·rw [if_pos hk]
  have:=hb.2.2.2.2.1 hk;simp only [this,List.length_drop] at hn ⊢;omega
 ·rw [if_neg hk]
  have:=hb.2.2.2.2.2 hk;simp only [this,List.length_nil] at hn ⊢;omega
theorem bC {p : Part} (h : ai p) : bZ p (psz p) = p:=by
 have hb:=h.bounds;unfold psz bZ;by_cases hk : p.kind = 2
 ·rw [if_pos hk]
  have:=hb.2.2.2.2.1 hk;rw [List.take_of_length_le (by omega)]
 ·rw [if_neg hk]
  have:=hb.2.2.2.2.2 hk;obtain ⟨k,n,s⟩:=p;simp only at this hb;subst this;simp;omega
theorem tO {p : Part} {m n : Nat} : aA (aA p m) n = aA p (m + n):=by
 unfold aA;by_cases hk : p.kind = 2
 ·simp [hk,List.drop_drop]
 ·simp [hk]
  omega
theorem vk {p : Part} : aA p 0 = p:=by unfold aA;split<;>simp
def nxt : List Part->List Part
 | []=>[]
 | p :: l=>if psz p = 0 then nxt l else p :: l
def tsz : List Part->Nat
 | []=>0
 | p :: l=>psz p + tsz l
def frs : List Part->Nat
 | []=>0
 | p :: l=>(if p.kind = 2 then 0 else psz p) + frs l
def tos : List Part->Nat
 | []=>0
 | p :: l=>(if p.kind = 3 then 0 else psz p) + tos l
theorem lT : ∀ l : List Part,tsz (nxt l) = tsz l
 | []=>rfl
 | p :: l => by
   unfold nxt
   split
   ·rename_i h;rw [lT l];simp [tsz,h]
   ·rfl
theorem ej : ∀ l : List Part,frs (nxt l) = frs l
 | []=>rfl
 | p :: l => by
   unfold nxt
   split
   ·rename_i h;rw [ej l];simp [frs,h]
   ·rfl
theorem lU : ∀ l : List Part,tos (nxt l) = tos l
 | []=>rfl
 | p :: l => by
   unfold nxt
   split
   ·rename_i h;rw [lU l];simp [tos,h]
   ·rfl
theorem bq : ∀ {l : List Part} {p : Part} {l' : List Part},nxt l = p :: l'->0 < psz p
 | [],p,l',h=>by simp [nxt] at h
 | q :: l, p, l', h => by
   unfold nxt at h
   split at h
   ·exact bq h
   ·simp at h;rw [<- h.1];omega
theorem be : ∀ l : List Part,nxt (nxt l) = nxt l
 | []=>rfl
 | p :: l => by
   by_cases h : psz p = 0
   ·simp only [nxt,h,if_true];exact be l
   ·simp only [nxt,h,if_false]
theorem k8 : ∀ l : List Part,∃ k,k<=l.length/\nxt l = l.drop k/\∀ i,(h : i < l.length)->i < k->psz l[i] = 0
 | []=>⟨0,by simp,rfl,λi h=>by simp at h⟩
 | p :: l => by
   by_cases h : psz p = 0
   ·obtain ⟨k,h1,h2,h3⟩:=k8 l
    refine ⟨k + 1,by simp;omega,by simp [nxt,h,h2],λi hi hk=>?_⟩
    cases i with
    | zero=>simpa using h
    | succ i=>simpa using h3 i (by simpa using hi) (by omega)
   ·exact ⟨0,by simp,by simp [nxt,h],λi _ hk=>by omega⟩
theorem eC {l : List Part} {p : Part} (h : p∈nxt l) : p∈l:=by
 obtain ⟨k,_,h2,_⟩:=k8 l;rw [h2] at h;exact List.mem_of_mem_drop h
theorem oa (l : List Part) : (nxt l).length<=l.length:=by
 obtain ⟨k,_,h2,_⟩:=k8 l;rw [h2];simp
def cX (x y : List Part) : Option (List Part × List Part × List Part):=
 match nxt x with
 | p :: x' => if p.kind = 3 then some ([bZ p (psz p)], aA p (psz p) :: x', y) else match nxt y with
   | q :: y' => if q.kind = 2 then some ([bZ q (psz q)], p :: x', aA q (psz q) :: y') else
       some (if q.kind = 1 then [bZ p (min (psz p) (psz q))] else if p.kind = 1 then [bZ q (min (psz p) (psz q))] else [],aA p (min (psz p) (psz q)) :: x',aA q (min (psz p) (psz q)) :: y')
   | []=>none
 | [] => match nxt y with
   | q :: y'=>if q.kind = 2 then some ([bZ q (psz q)],[],aA q (psz q) :: y') else none
   | []=>none
structure CInv (x y : List Part) : Prop where
 px : ∀ p∈x,ai p
 py : ∀ p∈y,ai p
 b : tos x = frs y
theorem dQ {l l' : List Part} {p : Part} {n : Nat} (hl : ∀ q∈l,ai q) (he : nxt l = p :: l') (hn : n<=psz p) : ∀ q∈aA p n :: l',ai q:=by
 intro q hq;rcases List.mem_cons.1 hq with rfl | hq
 ·exact tP (hl p (eC (he ▸ List.mem_cons_self ..))) hn
 ·exact hl q (eC (he ▸ List.mem_cons_of_mem _ hq))
theorem bS {l l' : List Part} {p : Part} (hl : ∀ q∈l,ai q) (he : nxt l = p :: l') : ai p/\∀ q∈p :: l',ai q:=
 ⟨hl p (eC (he ▸ List.mem_cons_self ..)),λq hq=>hl q (eC (he ▸ hq))⟩
structure CNext (x y : List Part) (r : List Part × List Part × List Part) : Prop where
 inv : CInv r.2.1 r.2.2
 dec : tsz r.2.1 + tsz r.2.2 < tsz x + tsz y
 ok : ∀ p∈r.1,ai p
 len : r.1.length<=1
theorem dn {x y : List Part} (hi : CInv x y) {r : List Part × List Part × List Part} (h : cX x y = some r) : CNext x y r:=by
 have hx:=lT x;have hy:=lT y;have hxt:=lU x;have hyf:=ej y;have hb:=hi.b;unfold cX at h
 cases ex : nxt x with
 | nil =>
   rw [ex] at h hx hxt
   cases ey : nxt y with
   | nil=>simp [ey] at h
   | cons q y' =>
     rw [ey] at hy hyf;have hq:=bS hi.py ey;have hp:=bq ey;simp only [ey] at h
     split at h
     ·rename_i k
      cases h
      have hs:=dw hq.1 (Nat.le_refl _);refine ⟨⟨by simp,dQ hi.py ey (Nat.le_refl _),?_⟩,?_,?_,by simp⟩
      ·simp [tos,frs,k] at hxt hyf ⊢;omega
      ·simp [tsz] at hx hy ⊢;omega
      ·intro p hp;simp at hp;subst hp;exact eW hq.1 (Nat.le_refl _)
     ·cases h
 | cons p x' =>
   rw [ex] at h hx hxt;have hp:=bS hi.px ex;have hpp:=bq ex;simp only at h
   split at h
   ·rename_i k
    cases h
    have hs:=dw hp.1 (Nat.le_refl _);refine ⟨⟨dQ hi.px ex (Nat.le_refl _),hi.py,?_⟩,?_,?_,by simp⟩
    ·simp [tos,k] at hxt ⊢;omega
    ·simp [tsz] at hx ⊢;omega
    ·intro q hq;simp at hq;subst hq;exact eW hp.1 (Nat.le_refl _)
   ·rename_i k3
    cases ey : nxt y with
    | nil=>simp [ey] at h
    | cons q y' =>
      rw [ey] at hy hyf;have hq:=bS hi.py ey;have hqp:=bq ey;simp only [ey] at h
      split at h
      ·rename_i k
       cases h
       have hs:=dw hq.1 (Nat.le_refl _);refine ⟨⟨hp.2,dQ hi.py ey (Nat.le_refl _),?_⟩,?_,?_,by simp⟩
       ·simp [tos,frs,k,k3] at hxt hyf ⊢;omega
       ·simp [tsz] at hx hy ⊢;omega
       ·intro p hp;simp at hp;subst hp;exact eW hq.1 (Nat.le_refl _)
      ·rename_i k2
       cases h
       have hn1 : min (psz p) (psz q)<=psz p:=by omega
       have hn2 : min (psz p) (psz q)<=psz q:=by omega
       have hs1:=dw hp.1 hn1;have hs2:=dw hq.1 hn2;refine ⟨⟨dQ hi.px ex hn1,dQ hi.py ey hn2,?_⟩,?_,?_,?_⟩
       ·simp [tos,frs,k2,k3] at hxt hyf ⊢;omega
       ·simp [tsz] at hx hy ⊢;omega
       ·intro r hr
        simp only at hr
        split at hr
        ·simp at hr;subst hr;exact eW hp.1 hn1
        ·split at hr
         ·simp at hr;subst hr;exact eW hq.1 hn2
         ·simp at hr
       ·simp only;split<;>(try split)<;>simp
noncomputable def nU : Nat->List Part->List Part->List Part
 | 0,_,_=>[]
 | k + 1, x, y => match cX x y with
   | none=>[]
   | some r=>r.1 ++ nU k r.2.1 r.2.2
noncomputable def cmp (x y : List Part) : List Part:=nU (tsz x + tsz y) x y
theorem xe : ∀ (k m : Nat) {x y : List Part},CInv x y->tsz x + tsz y<=k->tsz x + tsz y<=m->nU k x y = nU m x y
 | 0,0,_,_,_,_,_=>rfl
 | k + 1, 0, x, y, hi, h, h2 => by
   rw [nU,nU]
   cases hs : cX x y with
   | none=>rfl
   | some r=>have:=(dn hi hs).dec;omega
 | 0, m + 1, x, y, hi, h, h2 => by
   rw [nU,nU]
   cases hs : cX x y with
   | none=>rfl
   | some r=>have:=(dn hi hs).dec;omega
 | k + 1, m + 1, x, y, hi, h, h2 => by
   rw [nU,nU]
   cases hs : cX x y with
   | none=>rfl
   | some r =>
     have hn:=dn hi hs;have:=hn.dec;simp only;rw [xe k m hn.inv (by omega) (by omega)]
theorem pm {x y : List Part} (h : cX x y = none) : cmp x y = []:=by
 unfold cmp
 cases tsz x + tsz y with
 | zero=>rfl
 | succ k=>rw [nU,h]
theorem ik {x y : List Part} (hi : CInv x y) {r : List Part × List Part × List Part} (h : cX x y = some r) : cmp x y = r.1 ++ cmp r.2.1 r.2.2:=by
 have hn:=dn hi h;have hd:=hn.dec;unfold cmp;obtain ⟨k,hk⟩ : ∃ k,tsz x + tsz y = k + 1:=⟨tsz x + tsz y - 1,by omega⟩;rw [hk,nU,h];simp only;rw [xe k (tsz r.2.1 + tsz r.2.2) hn.inv (by omega) (by omega)]
abbrev XR:=(List Part × List Part) × List Part × List Part
def cu (x y : List Part) : Option XR:=
 match nxt x with
 | p :: x' => if p.kind = 2 then some (([bZ p (psz p)], [⟨1, p.signs.length, []⟩]), aA p (psz p) :: x', y) else match nxt y with
   | q :: y' => if q.kind = 2 then some (([⟨1, q.signs.length, []⟩], [bZ q (psz q)]), p :: x', aA q (psz q) :: y') else
       some ((if q.kind = 1 then [bZ p (min (psz p) (psz q))] else [],if p.kind = 1 then [bZ q (min (psz p) (psz q))] else []),aA p (min (psz p) (psz q)) :: x',aA q (min (psz p) (psz q)) :: y')
   | []=>none
 | [] => match nxt y with
   | q :: y'=>if q.kind = 2 then some (([⟨1,q.signs.length,[]⟩],[bZ q (psz q)]),[],aA q (psz q) :: y') else none
   | []=>none
structure TInv (x y : List Part) : Prop where
 px : ∀ p∈x,ai p
 py : ∀ p∈y,ai p
 b : frs x = frs y
structure TNext (x y : List Part) (r : XR) : Prop where
 inv : TInv r.2.1 r.2.2
 dec : tsz r.2.1 + tsz r.2.2 < tsz x + tsz y
 okx : ∀ p∈r.1.1,ai p
 oky : ∀ p∈r.1.2,ai p
 lenx : r.1.1.length<=1
 leny : r.1.2.length<=1
theorem vE {p : Part} (h : ai p) : ai ⟨1,p.signs.length,[]⟩:=by
 have:=h.bounds;exact .inl ⟨.inl rfl,by simp only;omega,rfl⟩
theorem cG {x y : List Part} (hi : TInv x y) {r : XR} (h : cu x y = some r) : TNext x y r:=by
 have hx:=lT x;have hy:=lT y;have hxt:=ej x;have hyf:=ej y;have hb:=hi.b;unfold cu at h
 cases ex : nxt x with
 | nil =>
   rw [ex] at h hx hxt
   cases ey : nxt y with
   | nil=>simp [ey] at h
   | cons q y' =>
     rw [ey] at hy hyf;have hq:=bS hi.py ey;have hp:=bq ey;simp only [ey] at h
     split at h
     ·rename_i k
      cases h
      have hs:=dw hq.1 (Nat.le_refl _);refine ⟨⟨by simp,dQ hi.py ey (Nat.le_refl _),?_⟩,?_,?_,?_,by simp,by simp⟩
      ·simp [frs,k] at hxt hyf ⊢;omega
      ·simp [tsz] at hx hy ⊢;omega
      ·intro p hp;simp at hp;subst hp;exact vE hq.1
      ·intro p hp;simp at hp;subst hp;exact eW hq.1 (Nat.le_refl _)
     ·cases h
 | cons p x' =>
   rw [ex] at h hx hxt;have hp:=bS hi.px ex;have hpp:=bq ex;simp only at h
   split at h
   ·rename_i k
    cases h
    have hs:=dw hp.1 (Nat.le_refl _);refine ⟨⟨dQ hi.px ex (Nat.le_refl _),hi.py,?_⟩,?_,?_,?_,by simp,by simp⟩
    ·simp [frs,k] at hxt ⊢;omega
    ·simp [tsz] at hx ⊢;omega
    ·intro q hq;simp at hq;subst hq;exact eW hp.1 (Nat.le_refl _)
    ·intro q hq;simp at hq;subst hq;exact vE hp.1
   ·rename_i k3
    cases ey : nxt y with
    | nil=>simp [ey] at h
    | cons q y' =>
      rw [ey] at hy hyf;have hq:=bS hi.py ey;have hqp:=bq ey;simp only [ey] at h
      split at h
      ·rename_i k
       cases h
       have hs:=dw hq.1 (Nat.le_refl _);refine ⟨⟨hp.2,dQ hi.py ey (Nat.le_refl _),?_⟩,?_,?_,?_,by simp,by simp⟩
       ·simp [frs,k,k3] at hxt hyf ⊢;omega
       ·simp [tsz] at hx hy ⊢;omega
       ·intro p hp;simp at hp;subst hp;exact vE hq.1
       ·intro p hp;simp at hp;subst hp;exact eW hq.1 (Nat.le_refl _)
      ·rename_i k2
       cases h
       have hn1 : min (psz p) (psz q)<=psz p:=by omega
       have hn2 : min (psz p) (psz q)<=psz q:=by omega
       have hs1:=dw hp.1 hn1;have hs2:=dw hq.1 hn2;refine ⟨⟨dQ hi.px ex hn1,dQ hi.py ey hn2,?_⟩,?_,?_,?_,?_,?_⟩
       ·simp [frs,k2,k3] at hxt hyf ⊢;omega
       ·simp [tsz] at hx hy ⊢;omega
       ·intro r hr
        simp only at hr
        split at hr
        ·simp at hr;subst hr;exact eW hp.1 hn1
        ·simp at hr
       ·intro r hr
        simp only at hr
        split at hr
        ·simp at hr;subst hr;exact eW hq.1 hn2
        ·simp at hr
       ·simp only;split<;>simp
       ·simp only;split<;>simp
noncomputable def xfK : Nat->List Part->List Part->List Part × List Part
 | 0,_,_=>([],[])
 | k + 1, x, y => match cu x y with
   | none=>([],[])
   | some r=>(r.1.1 ++ (xfK k r.2.1 r.2.2).1,r.1.2 ++ (xfK k r.2.1 r.2.2).2)
noncomputable def xf (x y : List Part) : List Part × List Part:=xfK (tsz x + tsz y) x y
theorem yV : ∀ (k m : Nat) {x y : List Part},TInv x y->tsz x + tsz y<=k->tsz x + tsz y<=m->xfK k x y = xfK m x y
 | 0,0,_,_,_,_,_=>rfl
 | k + 1, 0, x, y, hi, h, h2 => by
   rw [xfK,xfK]
   cases hs : cu x y with
   | none=>rfl
   | some r=>have:=(cG hi hs).dec;omega
 | 0, m + 1, x, y, hi, h, h2 => by
   rw [xfK,xfK]
   cases hs : cu x y with
   | none=>rfl
   | some r=>have:=(cG hi hs).dec;omega
 | k + 1, m + 1, x, y, hi, h, h2 => by
   rw [xfK,xfK]
   cases hs : cu x y with
   | none=>rfl
   | some r =>
     have hn:=cG hi hs;have:=hn.dec;simp only;rw [yV k m hn.inv (by omega) (by omega)]
theorem wm {x y : List Part} (h : cu x y = none) : xf x y = ([],[]):=by
 unfold xf
 cases tsz x + tsz y with
 | zero=>rfl
 | succ k=>rw [xfK,h]
theorem BX {x y : List Part} (hi : TInv x y) {r : XR} (h : cu x y = some r) : xf x y = (r.1.1 ++ (xf r.2.1 r.2.2).1,r.1.2 ++ (xf r.2.1 r.2.2).2):=by
 have hn:=cG hi h;have hd:=hn.dec;unfold xf;obtain ⟨k,hk⟩ : ∃ k,tsz x + tsz y = k + 1:=⟨tsz x + tsz y - 1,by omega⟩;rw [hk,xfK,h];simp only;rw [yV k (tsz r.2.1 + tsz r.2.2) hn.inv (by omega) (by omega)]
theorem sy : ∀ {o : List Part},(∀ p∈o,ai p)->(frs o : Int) = bk (iP 2) o
 | [],_=>rfl
 | p :: o, h => by
   have ih:=sy (λq hq=>h q (List.mem_cons_of_mem _ hq));have hp:=dr (h p (List.mem_cons_self ..));simp only [frs,bk,iP]
   split<;>simp<;>omega
theorem rP : ∀ {o : List Part},(∀ p∈o,ai p)->(tos o : Int) = bk (iP 3) o
 | [],_=>rfl
 | p :: o, h => by
   have ih:=rP (λq hq=>h q (List.mem_cons_of_mem _ hq));have hp:=dr (h p (List.mem_cons_self ..));simp only [tos,bk,iP]
   split<;>simp<;>omega
theorem fb {o : List Part} (h : aH o) : (frs o : Int) = aD o:=by
 rw [sy h.1.1,dF (λp hp=>GL (h.1.1 p hp)),gn];unfold aD bu;rw [if_pos h.1]
theorem jo {o : List Part} (h : aH o) : (tos o : Int) = cA o:=by
 rw [rP h.1.1,dF (λp hp=>GK (h.1.1 p hp)),gn];unfold cA bu;rw [if_pos h.1]
theorem uZ : ∀ (o : List Part),tsz o<=frs o + tos o
 | []=>by simp [tsz]
 | p :: o => by
   have:=uZ o;simp only [tsz,frs,tos]
   split<;>split<;>omega
theorem jn {o : List Part} (h : aH o) : tsz o<=400:=by
 have h1:=uZ o;have h2:=fb h;have h3:=jo h;have:=h.2;omega
theorem sM {a b : List Part} (ha : aH a) (hb : aH b) (h : cA a = aD b) : CInv a b:=by
 have h2:=fb hb;have h3:=jo ha;exact ⟨ha.1.1,hb.1.1,by omega⟩
theorem nZ {a b : List Part} (ha : aH a) (hb : aH b) (h : aD a = aD b) : TInv a b:=by
 have h2:=fb hb;have h3:=fb ha;exact ⟨ha.1.1,hb.1.1,by omega⟩
open Classical in
noncomputable def aT (a b : List Part) : List Part × Bool:=
 if aH a/\aH b/\cA a = aD b then (if aH (normal (cmp a b)) then (normal (cmp a b),true) else ([],false)) else ([],false)
open Classical in
noncomputable def ac (a b : List Part) : List Part × List Part × Bool:=
 if aH a/\aH b/\aD a = aD b then (if aH (normal (xf a b).1)/\aH (normal (xf a b).2) then (normal (xf a b).1,normal (xf a b).2,true) else ([],[],false)) else ([],[],false)
open Go.AM
def ab (d : Doc) : Int:=Go.IntKind.i64.wrap (d.fr + d.list.length)
def ar (r : Rep) : Prop:=(1<=r.client/\r.client<=8)/\(0<=r.seq/\r.seq<=999999999)/\(0<=r.rev/\r.rev<=999999999)/\bY r.text/\cK r.sent/\cK r.buf/\aD r.sent = r.text.length/\aD r.buf = cA r.sent/\(if r.has then r.seq≠0 else idle r.sent)
theorem cg (r : Rep) (hl : bc r<=2 ^ 40) : aj Tryz.prog 151 [.agg r.row] (.one (.c (vb (ar r)) 1)):=by
 refine pci ae Tryz.func151 (λw0 base=>?_);unfold bc at hl;simp [Rep.row];intros;refine aa.pure (bm r.client 1 8) (by simp) ?_;by_cases c1 : 1<=r.client/\r.client<=8
 rotate_left
 ·have e : dc (1<=r.client/\r.client<=8) = false:=by rw [aC];exact c1
  have hn : dc (ar r) = false:=by rw [aC];exact λh=>c1 h.1
  simp [e,hn]
 simp [c1];refine aa.pure (bm r.seq 0 999999999) (by simp) ?_;by_cases c2 : 0<=r.seq/\r.seq<=999999999
 rotate_left
 ·have e : dc (0<=r.seq/\r.seq<=999999999) = false:=by rw [aC];exact c2
  have hn : dc (ar r) = false:=by rw [aC];exact λh=>c2 h.2.1
  simp [e,hn]
 simp [c2];refine aa.pure (bm r.rev 0 999999999) (by simp) ?_;by_cases c3 : 0<=r.rev/\r.rev<=999999999
 rotate_left
 ·have e : dc (0<=r.rev/\r.rev<=999999999) = false:=by rw [aC];exact c3
  have hn : dc (ar r) = false:=by rw [aC];exact λh=>c3 h.2.2.1
  simp [e,hn]
 simp [c3];refine aa.pure (gd r.text (by omega)) (by simp) ?_;by_cases c4 : bY r.text
 rotate_left
 ·have hn : dc (ar r) = false:=by rw [aC];exact λh=>c4 h.2.2.2.1
  simp [c4,hn]
 simp [c4];refine aa.pure (iJ r.sent (by omega)) (by simp) ?_;by_cases c5 : cK r.sent
 rotate_left
 ·have hn : dc (ar r) = false:=by rw [aC];exact λh=>c5 h.2.2.2.2.1
  simp [c5,hn]
 simp [c5];refine aa.pure (iJ r.buf (by omega)) (by simp) ?_;by_cases c6 : cK r.buf
 rotate_left
 ·have hn : dc (ar r) = false:=by rw [aC];exact λh=>c6 h.2.2.2.2.2.1
  simp [c6,hn]
 simp [c6];refine aY.quiet eok mix (by kernel_rfl) ?_;simp;refine ⟨_,_,df r.sent (by omega),by simp,?_⟩;by_cases c7 : aD r.sent = r.text.length
 rotate_left
 ·have hn : dc (ar r) = false:=by rw [aC];exact λh=>c7 h.2.2.2.2.2.2.1
  simp [c7,hn]
 simp [c7];refine ⟨_,_,df r.buf (by omega),by simp,?_⟩;simp;refine ⟨_,_,iI r.sent (by omega),by simp,?_⟩;by_cases c8 : aD r.buf = cA r.sent
 rotate_left
 ·have hn : dc (ar r) = false:=by rw [aC];exact λh=>c8 h.2.2.2.2.2.2.2.1
  simp [c8,hn]
 simp [c8]
 cases ch : r.has
 ·have e : dc (ar r) = dc (idle r.sent):=gB ⟨λh=>by have:=h.2.2.2.2.2.2.2.2;rw [ch] at this;simpa using this,λh=>⟨c1,c2,c3,c4,c5,c6,c7,c8,by rw [ch];simpa using h⟩⟩
  simp;refine aa.pure (lj r.sent (by omega)) (by simp) ?_;simp;exact e
 ·have e : dc (ar r) = dc (r.seq≠0):=gB ⟨λh=>by have:=h.2.2.2.2.2.2.2.2;rw [ch] at this;simpa using this,λh=>⟨c1,c2,c3,c4,c5,c6,c7,c8,by rw [ch];simpa using h⟩⟩
  simp [e];by_cases h0 : r.seq = 0<;>simp [h0]
theorem cO (r : Rep) (hl : bc r<=2 ^ 40) : aj Tryz.prog 369 [.agg r.row] (.one (.c (vb (ar r)) 1)):=by
 refine pci ae Tryz.func369 (λw0 base=>?_);unfold bc at hl;simp [Rep.row];intros;refine aa.pure (cl r.client 1 8) (by simp) ?_;by_cases c1 : 1<=r.client/\r.client<=8
 rotate_left
 ·have e : dc (1<=r.client/\r.client<=8) = false:=by rw [aC];exact c1
  have hn : dc (ar r) = false:=by rw [aC];exact λh=>c1 h.1
  simp [e,hn]
 simp [c1];refine aa.pure (cl r.seq 0 999999999) (by simp) ?_;by_cases c2 : 0<=r.seq/\r.seq<=999999999
 rotate_left
 ·have e : dc (0<=r.seq/\r.seq<=999999999) = false:=by rw [aC];exact c2
  have hn : dc (ar r) = false:=by rw [aC];exact λh=>c2 h.2.1
  simp [e,hn]
 simp [c2];refine aa.pure (cl r.rev 0 999999999) (by simp) ?_;by_cases c3 : 0<=r.rev/\r.rev<=999999999
 rotate_left
 ·have e : dc (0<=r.rev/\r.rev<=999999999) = false:=by rw [aC];exact c3
  have hn : dc (ar r) = false:=by rw [aC];exact λh=>c3 h.2.2.1
  simp [e,hn]
 simp [c3];refine aa.pure (f5 r.text (by omega)) (by simp) ?_;by_cases c4 : bY r.text
 rotate_left
 ·have hn : dc (ar r) = false:=by rw [aC];exact λh=>c4 h.2.2.2.1
  simp [c4,hn]
 simp [c4];refine aa.pure (iC r.sent (by omega)) (by simp) ?_;by_cases c5 : cK r.sent
 rotate_left
 ·have hn : dc (ar r) = false:=by rw [aC];exact λh=>c5 h.2.2.2.2.1
  simp [c5,hn]
 simp [c5];refine aa.pure (iC r.buf (by omega)) (by simp) ?_;by_cases c6 : cK r.buf
 rotate_left
 ·have hn : dc (ar r) = false:=by rw [aC];exact λh=>c6 h.2.2.2.2.2.1
  simp [c6,hn]
 simp [c6];refine aY.quiet eok mix (by kernel_rfl) ?_;simp;refine ⟨_,_,cI r.sent (by omega),by simp,?_⟩;by_cases c7 : aD r.sent = r.text.length
 rotate_left
 ·have hn : dc (ar r) = false:=by rw [aC];exact λh=>c7 h.2.2.2.2.2.2.1
  simp [c7,hn]
 simp [c7];refine ⟨_,_,cI r.buf (by omega),by simp,?_⟩;simp;refine ⟨_,_,fo r.sent (by omega),by simp,?_⟩;by_cases c8 : aD r.buf = cA r.sent
 rotate_left
 ·have hn : dc (ar r) = false:=by rw [aC];exact λh=>c8 h.2.2.2.2.2.2.2.1
  simp [c8,hn]
 simp [c8]
 cases ch : r.has
 ·have e : dc (ar r) = dc (idle r.sent):=gB ⟨λh=>by have:=h.2.2.2.2.2.2.2.2;rw [ch] at this;simpa using this,λh=>⟨c1,c2,c3,c4,c5,c6,c7,c8,by rw [ch];simpa using h⟩⟩
  simp;refine aa.pure (oA r.sent (by omega)) (by simp) ?_;simp;exact e
 ·have e : dc (ar r) = dc (r.seq≠0):=gB ⟨λh=>by have:=h.2.2.2.2.2.2.2.2;rw [ch] at this;simpa using this,λh=>⟨c1,c2,c3,c4,c5,c6,c7,c8,by rw [ch];simpa using h⟩⟩
  simp [e];by_cases h0 : r.seq = 0
  ·simp [h0]
  ·have : 0 < r.seq:=by omega
   simp [h0,this]
def dv (r : Rep) : Prop:=ar r/\r.has = false/\idle r.buf
theorem gu (r : Rep) (hl : bc r<=2 ^ 40) : aj Tryz.prog 56 [.agg r.row] (.one (.c (vb (dv r)) 1)):=by
 refine pci ae Tryz.func56 (λw0 base=>?_);simp [Rep.row];intros;refine aa.pure (cg r hl) (by simp [Rep.row]) ?_;unfold bc at hl;by_cases c1 : ar r
 rotate_left
 ·simp [c1,dv]
 simp [c1]
 cases ch : r.has
 ·simp
  refine aa.pure (lj r.buf (by omega)) (by simp) ?_;simp [dv,c1,ch]
 ·simp [ch,dv]
theorem gC (l : List Int) (hl : l.length<=2 ^ 40) : aj Tryz.prog 172 [.c (.s (l.map aB))] (.one (.c (.s (l.map aB)) 1)):=by
 refine pci ae Tryz.func172 (λw0 base=>?_);simp;omega
def Rep.zero : Rep:=⟨0,0,0,[],false,[],[]⟩
noncomputable def bp (c s v : Int) (t : List Int) : Rep:=⟨c,s,v,t,false,aU t.length,aU t.length⟩
open Classical in
noncomputable def eq (r : Rep) : Rep × Bool:=if ar r then (r,true) else (Rep.zero,false)
noncomputable def bN (c s v : Int) (t : List Int) : Rep × Bool:=eq (bp c s v t)
theorem mP (n : Int) : nL al (aU n)<=1:=by
 unfold aU
 split<;>simp [nL,ca,al]
theorem qU (c s v : Int) (t : List Int) : bc (bp c s v t)<=t.length + 2:=by
 have h:=mP t.length;unfold bc bp;simp only;omega
theorem Rep.zero_n : bc Rep.zero = 0:=rfl
theorem sj (a0 a1 a2 : Int) (a3 : List Int) (n3 : a3.length<=2 ^ 20) :
 aj Tryz.prog 148 [.c (vi a0),.c (vi a1),.c (vi a2),.c (.s (a3.map aB))] (.tup [.agg (bN a0 a1 a2 a3).1.res,.c (.v (.bool (bN a0 a1 a2 a3).2)) 1]):=by
 refine pci ae Tryz.func148 (λw0 base=>?_);simp;intro b8;refine aa.pure (gC a3 (by omega)) (by simp) ?_;simp;intro H1;refine aa.pure (fG a3.length) (by simp) ?_;simp;intro H2;refine aa.pure (fG a3.length) (by simp) ?_;simp;intro H3;refine inl ae Tryz.func243 20000 (λw1 F=>?_);simp;intros;have hn:=qU a0 a1 a2 a3;refine aa.pure (cg (bp a0 a1 a2 a3) (by omega)) (by simp [Rep.row,bp]) ?_;by_cases h : ar (bp a0 a1 a2 a3)
 ·have e : bN a0 a1 a2 a3 = (bp a0 a1 a2 a3,true):=by unfold bN eq;rw [if_pos h]
  simp [h,e,Rep.res];simp [bp]
 ·have e : bN a0 a1 a2 a3 = (Rep.zero,false):=by unfold bN eq;rw [if_neg h]
  have e2 : dc (ar (bp a0 a1 a2 a3)) = false:=by rw [aC];exact h
  simp [e2,e,Rep.res,Rep.zero]
theorem lG (a0 a1 a2 : Int) (a3 : List Int) (n3 : a3.length<=2 ^ 20) :
 aj Tryz.prog 316 [.c (vi a0),.c (vi a1),.c (vi a2),.c (.s (a3.map aB))] (.tup [.agg (bN a0 a1 a2 a3).1.res,.c (.v (.bool (bN a0 a1 a2 a3).2)) 1]):=by
 refine pci ae Tryz.func316 (λw0 base=>?_);simp;intro b8 b9;refine ⟨by omega,λH1=>?_⟩;refine aa.pure (fE a3.length) (by simp) ?_;simp;intro H2;refine aa.pure (fE a3.length) (by simp) ?_;simp;intro H3;refine inl ae Tryz.func366 20000 (λw1 F=>?_);simp;intros;have hn:=qU a0 a1 a2 a3;refine aa.pure (cO (bp a0 a1 a2 a3) (by omega)) (by simp [Rep.row,bp]) ?_;by_cases h : ar (bp a0 a1 a2 a3)
 ·have e : bN a0 a1 a2 a3 = (bp a0 a1 a2 a3,true):=by unfold bN eq;rw [if_pos h]
  simp [h,e,Rep.res];simp [bp]
 ·have e : bN a0 a1 a2 a3 = (Rep.zero,false):=by unfold bN eq;rw [if_neg h]
  have e2 : dc (ar (bp a0 a1 a2 a3)) = false:=by rw [aC];exact h
  simp [e2,e,Rep.res,Rep.zero]
theorem rV (a0 : Int) (_ : oX a0) (a1 : Int) (_ : oX a1) (a2 : Int) (_ : oX a2) (a3 : List Int) (_ : a3.length<=9223372036854775807/\∀ n∈a3,oX n) (n3 : a3.length<=2 ^ 20) : aj Tryz.prog 316 [.c (vi a0),.c (vi a1),.c (vi a2),.c (.s (a3.map aB))] (.tup [.agg (bN a0 a1 a2 a3).1.res,.c (.v (.bool (bN a0 a1 a2 a3).2)) 1]):=lG a0 a1 a2 a3 n3
theorem eI {α β : Type} {f : α->β} {l : List α} {i : Nat} (h : i < l.length) : List.take i (l.map f) ++ [f l[i]] = List.take (i + 1) (l.map f):=by
 rw [List.take_add_one];simp [h]
theorem jQ (o : List Part) (hl : nL al o<=2 ^ 30) : aj Tryz.prog 217 [.c (.s (o.map Part.row))] (.one (.c (.s (o.map Part.row)) 3)):=by
 refine pci ae Tryz.func217 (λw0 base=>?_);have hle:=bL hl;simp;refine aQ.intro eok (λx : Nat × Hd=>x.1<=o.length) (λx=>⟨22,0,[(8,.v (.int .i64 x.1)),(7,.v (.int .i64 o.length)),(6,.ro (o.map Part.row)),(3,.sl 304 x.2 3 0 x.1)],[(304,.rows x.2 3 ((o.take x.1).map Part.row) true)]⟩) (λx=>o.length - x.1) (0,none) (by simp) (by simp) (λx hi=>?_);obtain ⟨i,H⟩:=x;simp only at hi ⊢;by_cases h : i < o.length
 ·have e : Go.IntKind.i64.wrap ((i : Int) + 1) = ((i + 1 : Nat) : Int):=az (by omega)
  have hm : min i o.length = i:=by omega
  have hs:=jg hl h;simp [h,Part.row];intro b5;refine aa.pure (gC o[i].signs (by unfold al at hs;omega)) (by simp) ?_;simp [hm];exact ⟨by omega,λH3=>⟨i + 1,by omega,by omega,H3,⟨e,rfl,rfl⟩,rfl,eI (f:=Part.row) h⟩⟩
 ·have : i = o.length:=by omega
  subst this;simp [cut]
theorem gj (o : List Part) (hl : nL al o<=2 ^ 30) : aj Tryz.prog 308 [.c (.s (o.map Part.row))] (.one (.c (.s (o.map Part.row)) 3)):=by
 refine pci ae Tryz.func308 (λw0 base=>?_);have hle:=bL hl;simp;intro b;refine aQ.intro eok (λx : Nat × Hd=>x.1<=o.length) (λx=>⟨27,0,[(9,.v (.int .i64 x.1)),(8,.v (.int .i64 o.length)),(7,.ro (o.map Part.row)),(3,.sl 96 x.2 3 0 x.1)],[(96,.rows x.2 3 ((o.take x.1).map Part.row) true)]⟩) (λx=>o.length - x.1) (0,some (b,0,0)) (by simp) (by simp) (λx hi=>?_);obtain ⟨i,H⟩:=x;simp only at hi ⊢;by_cases h : i < o.length
 ·have e : Go.IntKind.i64.wrap ((i : Int) + 1) = ((i + 1 : Nat) : Int):=az (by omega)
  have hm : min i o.length = i:=by omega
  have hs:=jg hl h;unfold al at hs;simp [h,Part.row];intro b5;refine drw eok mix [0,1,2,3,4,6,7] [5,8,9,10,11,12] (.c 7 5 0 127 (.c 7 8 1 126 (.c 7 9 20 106 (.c 7 10 0 106 (.c 7 11 64 42 (.c 7 12 42 0 (.l 7 0) .s) .s) .s) .s) .s) .s) ?_;simp [hm];exact ⟨by omega,by omega,λH3=>⟨i + 1,by omega,by omega,H3,⟨e,rfl,rfl⟩,rfl,eI (f:=Part.row) h⟩⟩
 ·have : i = o.length:=by omega
  subst this;simp [cut]
def Call.zero : Call:=⟨0,⟨#[]⟩,0,0,0,[],[]⟩
def du (r : Rep) : Call:=⟨2,⟨#[]⟩,r.client,r.seq,r.rev,r.sent,[]⟩
theorem ox (r : Rep) (hl : bc r<=2 ^ 30) : aj Tryz.prog 246 [.agg r.row] (.one (.agg (du r).res)):=by
 refine pci ae Tryz.func246 (λw0 base=>?_);unfold bc at hl;simp [Rep.row];intros;refine drw eok mix [0,1,2,3,4,5,6,7] [8,9,10] (.c 8 8 1 254 (.c 8 9 84 170 (.c 8 10 170 0 (.l 8 0) .s) .s) .s) ?_;simp;refine aa.pure (jQ r.sent (by omega)) (by simp) ?_;simp [du,Call.res]
theorem rb (r : Rep) (hl : bc r<=2 ^ 30) : aj Tryz.prog 372 [.agg r.row] (.one (.agg (du r).res)):=by
 refine pci ae Tryz.func372 (λw0 base=>?_);unfold bc at hl;simp [Rep.row];intros;refine drw eok mix [0,1,2,3,4,5,6,7] [8,9,10] (.c 8 8 1 254 (.c 8 9 84 170 (.c 8 10 170 0 (.l 8 0) .s) .s) .s) ?_;simp;refine aa.pure (gj r.sent (by omega)) (by simp) ?_;simp [du,Call.res]
theorem Call.zero_n : Ju Call.zero = 0:=rfl
def cT (t : List Int) (s : List Int × Int) (p : Part) : List Int × Int:=
 if p.kind = 1 then (s.1 ++ (t.drop s.2.toNat).take p.n.toNat,s.2 + p.n) else if p.kind = 2 then (s.1 ++ p.signs,s.2) else (s.1,s.2 + p.n)
def dj (o : List Part) (t : List Int) : List Int × Int:=o.foldl (cT t) ([],0)
theorem kn {o : List Part} {t : List Int} {i : Nat} (h : i < o.length) : dj (o.take (i + 1)) t = cT t (dj (o.take i) t) o[i]:=by
 unfold dj;rw [<- List.take_append_getElem h,List.foldl_append];rfl
def cP (o : List Part) (t : List Int) : Prop:=aH o/\bY t/\aD o = t.length
open Classical in
noncomputable def apply (o : List Part) (t : List Int) : List Int × Bool:=if cP o t then ((dj o t).1,true) else ([],false)
theorem jU {o : List Part} {t : List Int} (ho : ∀ p∈o,ai p) : ∀ (i : Nat),i<=o.length->(dj (o.take i) t).2 = bk fK (o.take i) + bk fD (o.take i)/\(dj (o.take i) t).1.length<=200 * i
 | 0,_=>by simp [dj,bk]
 | i + 1, hi => by
   have hlt : i < o.length:=by omega
   obtain ⟨h1,h2⟩:=jU ho i (by omega);have hb:=(ho _ (List.getElem_mem hlt)).bounds;rw [kn hlt,d6 hlt,d6 hlt];generalize dj (o.take i) t = s at h1 h2;obtain ⟨L,a⟩:=s;simp only at h1 h2;generalize bk fK (o.take i) = x1 at h1 ⊢;generalize bk fD (o.take i) = x2 at h1 ⊢;unfold cT fK fD;by_cases k1 : o[i].kind = 1
   ·simp [k1]
    omega
   ·by_cases k2 : o[i].kind = 2
    ·simp [k2];omega
    ·simp [k1,k2];omega
theorem f3 {f : Part->Int} (hf : ∀ p,ai p->0<=f p) : ∀ {o : List Part} (_ : ∀ p∈o,ai p) (i : Nat),bk f (o.take i)<=bk f o
 | [],_,i=>by simp
 | p :: o, ho, 0 => by
   have h1:=hf p (ho p (List.mem_cons_self ..));have h2:=f3 hf (o:=o) (λq hq=>ho q (List.mem_cons_of_mem _ hq)) 0;simp only [List.take_zero,bk] at h2 ⊢;omega
 | p :: o, ho, i + 1 => by
   have h2:=f3 hf (o:=o) (λq hq=>ho q (List.mem_cons_of_mem _ hq)) i;simp only [List.take_succ_cons,bk];omega
theorem pB {o : List Part} {t : List Int} (h : cP o t) {i : Nat} (hi : i < o.length) : 0<=(dj (o.take i) t).2/\(o[i].kind≠2->(dj (o.take i) t).2 + o[i].n<=t.length)/\(dj (o.take i) t).2<=t.length:=by
 have ho:=h.1.1.1;have h1:=(jU (t:=t) ho i (by omega)).1;have hf : aD o = bk fK o + bk fD o:=by unfold aD bu;rw [if_pos h.1.1]
 have h2:=f3 (λp hp=>(A9 hp).1) ho (i + 1);have h3:=f3 (λp hp=>(Ba hp).1) ho (i + 1);have h4:=cS (f:=fK) (λp h=>A9 h) (iz ho i);have h5:=cS (f:=fD) (λp h=>Ba h) (iz ho i);have h6:=d6 (f:=fK) hi;have h7:=d6 (f:=fD) hi;have h8:=h.2.2;have hb:=(ho _ (List.getElem_mem hi)).bounds;have k1:=A9 (ho _ (List.getElem_mem hi));have k2:=Ba (ho _ (List.getElem_mem hi));refine ⟨by omega,λhk=>?_,by omega⟩
 have : fK o[i] + fD o[i] = o[i].n:=by
  unfold fK fD;by_cases c1 : o[i].kind = 1
  ·simp [c1]
  ·simp [c1,hk]
 omega
theorem fR (o : List Part) (t : List Int) (hl : nL al o<=2 ^ 40) (ht : t.length<=2 ^ 40) : aj Tryz.prog 254 [.c (.s (o.map Part.row)),.c (.s (t.map aB))] (.tup [.c (.s ((apply o t).1.map aB)) 1,.c (.v (.bool (apply o t).2)) 1]):=by
 refine pci ae Tryz.func254 (λw0 base=>?_);simp;have no : ¬ cP o t->apply o t = ([],false):=λh=>by unfold apply;rw [if_neg h]
 refine aa.pure (bT o hl) (by simp) ?_;by_cases c1 : aH o
 rotate_left
 ·have e : dc (aH o) = false:=by rw [aC];exact c1
  simp [e,no (λh=>c1 h.1)]
 simp [c1];refine aa.pure (gd t ht) (by simp) ?_;by_cases c2 : bY t
 rotate_left
 ·have e : dc (bY t) = false:=by rw [aC];exact c2
  simp [e,no (λh=>c2 h.2.1)]
 simp [c2];refine aa.pure (df o hl) (by simp) ?_;by_cases c3 : aD o = t.length
 rotate_left
 ·simp [c3,no (λh=>c3 h.2.2)]
 have hf : cP o t:=⟨c1,c2,c3⟩;have e : apply o t = ((dj o t).1,true):=by unfold apply;rw [if_pos hf]
 have ho:=c1.1.1;have hlen:=c1.1.2;simp [c3,e];refine aQ.intro eok (λx : Nat × Hd=>x.1<=o.length) (λx=>⟨60,0,[(27,.v (.int .i64 x.1)),(26,.v (.int .i64 o.length)),(25,.ro (o.map Part.row)),(7,.v (.int .i64 (dj (o.take x.1) t).2)),(6,.sl 752 x.2 1 0 (dj (o.take x.1) t).1.length),(1,.ro (t.map aB))],[(752,.rows x.2 1 ((dj (o.take x.1) t).1.map aB) true)]⟩) (λx=>o.length - x.1) (0,none) (by simp) (by simp [dj]) (λx hi=>?_);obtain ⟨i,H⟩:=x;simp only at hi ⊢;by_cases h : i < o.length
 ·have hin:=pB hf h
  have hat:=jU (t:=t) ho i hi;have hb:=(ho _ (List.getElem_mem h)).bounds;have hs:=kn (t:=t) h;generalize dj (o.take i) t = s at hin hat hs;obtain ⟨L,a⟩:=s;simp only at hin hat hs;obtain ⟨a',rfl⟩ : ∃ a' : Nat,a = a':=⟨a.toNat,by omega⟩;obtain ⟨n,hn⟩ : ∃ n : Nat,o[i].n = n:=⟨o[i].n.toNat,by omega⟩;have e : Go.IntKind.i64.wrap ((i : Int) + 1) = ((i + 1 : Nat) : Int):=az (by omega);have ea : Go.IntKind.i64.wrap ((a' : Int) + n) = (a' : Int) + n:=Go.IntWalk.i64_in _ (by omega);rw [hn] at hin;simp [h,Part.row];intro b9;by_cases k1 : o[i].kind = 1
  ·have hle : a' + n<=t.length:=by have:=hin.2.1 (by omega);omega
   have hst : cT t (L,(a' : Int)) o[i] = (L ++ (t.drop a').take n,(a' : Int) + n):=by simp [cT,k1,hn]
   rw [hst] at hs;obtain ⟨m,hm⟩ : ∃ m,(t.drop a').take n = m:=⟨_,rfl⟩;have hcut : cut (t.map aB) a' n = m.map aB:=by rw [dV,<- hm];simp
   have hlen2 : m.length = n:=by rw [<- hm];simp;omega
   rw [hm] at hs;simp [k1,hn,ea,hle,hcut];refine ⟨by omega,λH2=>⟨i + 1,by omega,by omega,H2,?_⟩⟩;rw [hs];simp [e]
  ·by_cases k3 : o[i].kind = 3
   ·have hst : cT t (L,(a' : Int)) o[i] = (L,(a' : Int) + n):=by simp [cT,k3,hn]
    rw [hst] at hs;simp [k3,hn,ea];refine ⟨i + 1,by omega,by omega,H,?_⟩;rw [hs];simp [e]
   ·have k2 : o[i].kind = 2:=by omega
    have hst : cT t (L,(a' : Int)) o[i] = (L ++ o[i].signs,(a' : Int)):=by simp [cT,k2]
    rw [hst] at hs;simp [k2];refine ⟨by omega,λH2=>⟨i + 1,by omega,by omega,H2,?_⟩⟩;rw [hs];simp [e]
 ·have he : o.take i = o:=List.take_of_length_le (by omega)
  rw [he];simp [h]
theorem xZ (o : List Part) (t : List Int) (hl : nL al o<=2 ^ 40) (ht : t.length<=2 ^ 40) : aj Tryz.prog 352 [.c (.s (o.map Part.row)),.c (.s (t.map aB))] (.one (.c (vb (cP o t)) 1)):=by
 refine pci ae Tryz.func352 (λw0 base=>?_);simp;refine aa.pure (bJ o hl) (by simp) ?_;by_cases c1 : aH o
 rotate_left
 ·simp [c1,cP]
 simp [c1];refine aa.pure (f5 t ht) (by simp) ?_;by_cases c2 : bY t
 rotate_left
 ·simp [c2,cP]
 simp [c2];refine aa.pure (cI o hl) (by simp) ?_;simp [cP,c1,c2]
theorem dE (o : List Part) (t : List Int) (hl : nL al o<=2 ^ 40) (ht : t.length<=2 ^ 40) : aj Tryz.prog 283 [.c (.s (o.map Part.row)),.c (.s (t.map aB))] (.tup [.c (.s ((apply o t).1.map aB)) 1,.c (.v (.bool (apply o t).2)) 1]):=by
 refine pci ae Tryz.func283 (λw0 base=>?_);simp;refine aa.pure (xZ o t hl ht) (by simp) ?_;by_cases hf : cP o t
 rotate_left
 ·have e : dc (cP o t) = false:=by rw [aC];exact hf
  have e2 : apply o t = ([],false):=by unfold apply;rw [if_neg hf]
  simp [e,e2]
 have e : apply o t = ((dj o t).1,true):=by unfold apply;rw [if_pos hf]
 have ho:=hf.1.1.1;have hlen:=hf.1.1.2;simp [hf,e];intro b;refine aQ.intro eok (λx : Nat × Hd=>x.1<=o.length) (λx=>⟨50,0,[(17,.v (.int .i64 x.1)),(16,.v (.int .i64 o.length)),(15,.ro (o.map Part.row)),(7,.v (.int .i64 (dj (o.take x.1) t).2)),(6,.sl 224 x.2 1 0 (dj (o.take x.1) t).1.length),(1,.ro (t.map aB))],[(224,.rows x.2 1 ((dj (o.take x.1) t).1.map aB) true)]⟩) (λx=>o.length - x.1) (0,some (b,0,0)) (by simp) (by simp [dj]) (λx hi=>?_);obtain ⟨i,H⟩:=x;simp only at hi ⊢;by_cases h : i < o.length
 ·have hin:=pB hf h
  have hat:=jU (t:=t) ho i hi;have hb:=(ho _ (List.getElem_mem h)).bounds;have hs:=kn (t:=t) h;generalize dj (o.take i) t = s at hin hat hs;obtain ⟨L,a⟩:=s;simp only at hin hat hs;obtain ⟨a',rfl⟩ : ∃ a' : Nat,a = a':=⟨a.toNat,by omega⟩;obtain ⟨n,hn⟩ : ∃ n : Nat,o[i].n = n:=⟨o[i].n.toNat,by omega⟩;have e : Go.IntKind.i64.wrap ((i : Int) + 1) = ((i + 1 : Nat) : Int):=az (by omega);have ea : Go.IntKind.i64.wrap ((a' : Int) + n) = (a' : Int) + n:=Go.IntWalk.i64_in _ (by omega);rw [hn] at hin;simp [h,Part.row];intro b9;by_cases k1 : o[i].kind = 1
  ·have hle : a' + n<=t.length:=by have:=hin.2.1 (by omega);omega
   have hst : cT t (L,(a' : Int)) o[i] = (L ++ (t.drop a').take n,(a' : Int) + n):=by simp [cT,k1,hn]
   rw [hst] at hs;obtain ⟨m,hm⟩ : ∃ m,(t.drop a').take n = m:=⟨_,rfl⟩;have hcut : cut (t.map aB) a' n = m.map aB:=by rw [dV,<- hm];simp
   have hlen2 : m.length = n:=by rw [<- hm];simp;omega
   rw [hm] at hs;simp [k1,hn,ea,hle,hcut];refine ⟨by omega,λH2=>⟨i + 1,by omega,by omega,H2,?_⟩⟩;rw [hs];simp [e]
  ·by_cases k2 : o[i].kind = 2
   ·have hst : cT t (L,(a' : Int)) o[i] = (L ++ o[i].signs,(a' : Int)):=by simp [cT,k2]
    rw [hst] at hs;simp [k2];refine ⟨by omega,λH2=>⟨i + 1,by omega,by omega,H2,?_⟩⟩;rw [hs];simp [e]
   ·have k3 : o[i].kind = 3:=by omega
    have hst : cT t (L,(a' : Int)) o[i] = (L,(a' : Int) + n):=by simp [cT,k3,hn]
    rw [hst] at hs;simp [k1,k2,hn,ea];refine ⟨i + 1,by omega,by omega,H,?_⟩;rw [hs];simp [e]
 ·have he : o.take i = o:=List.take_of_length_le (by omega)
  rw [he];simp [h]
theorem fB (o : List Part) (t : List Int) : (apply o t).1.length<=2 ^ 17:=by
 unfold apply
 split
 ·rename_i h
  have h1:=(jU (t:=t) h.1.1.1 o.length (by omega)).2;rw [List.take_length] at h1;have:=h.1.1.2;simp only;omega
 ·simp
abbrev dJ (o : List Part) : List CD:=[.s (o.map Part.row)]
open Classical in
noncomputable def ak : List (List Part)->List Int->Option (List Int)
 | [],t=>some t
 | o :: l,t=>if (apply o t).2 = true then ak l (apply o t).1 else none
open Classical in
noncomputable def br (l : List (List Part)) (t : List Int) : List Int × Bool:=
 if bY t then match ak l t with
  | some u=>(u,true)
  | none=>([],false)
 else ([],false)
theorem gE {l : List (List Part)} {i : Nat} {u : List Int} (h : i < l.length) : ak (l.drop i) u = if (apply l[i] u).2 = true then ak (l.drop (i + 1)) (apply l[i] u).1 else none:=by
 rw [List.drop_eq_getElem_cons h,ak]
theorem gv (l : List (List Part)) (t : List Int) (hl : l.length<=2 ^ 30) (hs : ∀ o∈l,nL al o<=2 ^ 40) (ht : t.length<=2 ^ 40) : aj Tryz.prog 154 [.c (.s (l.map dJ)),.c (.s (t.map aB))] (.tup [.c (.s ((br l t).1.map aB)) 1,.c (.v (.bool (br l t).2)) 1]):=by
 refine pci ae Tryz.func154 (λw0 base=>?_);simp;refine aa.pure (gd t ht) (by simp) ?_;by_cases c2 : bY t
 rotate_left
 ·have e : dc (bY t) = false:=by rw [aC];exact c2
  have e2 : br l t = ([],false):=by unfold br;rw [if_neg c2]
  simp [e,e2]
 obtain ⟨r,hr⟩ : ∃ r,br l t = r:=⟨_,rfl⟩;have hr' : (match ak l t with | some u=>(u,true) | none=>([],false)) = r:=by rw [<- hr];unfold br;rw [if_pos c2]
 rw [hr];simp [c2];refine aa.pure (gC t ht) (by simp) ?_;simp;intro H0
 refine aQ.intro eok (λx : Nat × Nat × Hd × List Int=>x.1<=l.length/\x.2.2.2.length<=2 ^ 40/\(match ak (l.drop x.1) x.2.2.2 with | some u=>(u,true) | none=>([],false)) = r)
  (λx=>⟨33,0,[(18,.v (.int .i64 x.1)),(17,.v (.int .i64 l.length)),(16,.ro (l.map dJ)),(6,.sl x.2.1 x.2.2.1 1 0 x.2.2.2.length)],[(x.2.1,.rows x.2.2.1 1 (x.2.2.2.map aB) true)]⟩) (λx=>l.length - x.1) (0,240,H0,t) (by simp [ht,hr']) (by simp) (λx hi=>?_)
 obtain ⟨i,K,H,u⟩:=x;simp only at hi ⊢;obtain ⟨hi1,hi2,hi3⟩:=hi;by_cases h : i < l.length
 ·have e : Go.IntKind.i64.wrap ((i : Int) + 1) = ((i + 1 : Nat) : Int):=az (by omega)
  rw [gE h] at hi3;have hlen:=fB l[i] u;simp [h];refine aa.pure (fR l[i] u (hs _ (List.getElem_mem h)) hi2) (by simp) ?_;generalize apply l[i] u = q at hi3 hlen;obtain ⟨v,ok⟩:=q;simp only at hi3 hlen
  cases ok
  ·simp at hi3
   simp [<- hi3]
  ·simp at hi3
   simp;intro H2;exact ⟨i + 1,400,H2,v,⟨by omega,by omega,hi3⟩,by omega,⟨e,rfl,rfl,rfl⟩,.inl rfl⟩
 ·have hd : l.drop i = []:=List.drop_eq_nil_of_le (by omega)
  rw [hd] at hi3;simp [ak] at hi3;simp [h,<- hi3]
theorem rB {o : List Part} {t : List Int} (h : cP o t) : ∀ (i : Nat),i<=o.length->((dj (o.take i) t).1.length : Int) = bk fK (o.take i) + bk fP (o.take i)/\db (dj (o.take i) t).1
 | 0,_=>by simp [dj,bk,db]
 | i + 1, hi => by
   have hlt : i < o.length:=by omega
   obtain ⟨h1,h2⟩:=rB h i (by omega);have hin:=pB h hlt;have hpo:=h.1.1.1 _ (List.getElem_mem hlt);have hb:=hpo.bounds;rw [kn hlt,d6 hlt,d6 hlt];generalize dj (o.take i) t = s at h1 h2 hin;generalize o[i] = p at hin hpo hb;unfold cT;rw [show fK p = (if p.kind = 1 then p.n else 0) from rfl,show fP p = (if p.kind = 2 then (p.signs.length : Int) else 0) from rfl];rcases hb.1 with k | k | k
   ·have:=hin.2.1 (by omega)
    have e : ((t.drop s.2.toNat).take p.n.toNat).length = p.n.toNat:=by simp;omega
    refine ⟨?_,?_⟩
    ·simp only [k,if_true,List.length_append,e]
     have k2 : ¬ (1 : Int) = 2:=by decide
     simp only [k2,if_false];omega
    simp only [k,if_true];intro n hn;rcases List.mem_append.1 hn with hn | hn
    ·exact h2 n hn
    ·exact h.2.1.2 n (List.mem_of_mem_drop (List.mem_of_mem_take hn))
   ·refine ⟨by simp [k];omega,?_⟩
    have k1 : ¬ p.kind = 1:=by omega
    simp only [k,if_true];rw [eG k] at hpo;intro n hn;rcases List.mem_append.1 hn with hn | hn
    ·exact h2 n hn
    ·exact hpo.2.2 n hn
   ·exact ⟨by simp [k];omega,by simpa [k] using h2⟩
theorem di {o : List Part} {t : List Int} (h : cP o t) : bY (apply o t).1/\((apply o t).1.length : Int) = cA o:=by
 have h1:=rB h o.length (Nat.le_refl _);rw [List.take_length] at h1;have e : apply o t = ((dj o t).1,true):=by unfold apply;rw [if_pos h]
 have ht : cA o = bk fK o + bk fP o:=by unfold cA bu;rw [if_pos h.1.1]
 have h3:=h.1.2.2;rw [e];refine ⟨⟨by simp only;omega,h1.2⟩,by simp only;omega⟩
theorem cR {o : List Part} {t : List Int} : (apply o t).2 = true ↔ cP o t:=by
 unfold apply
 split<;>simp_all
def es (s : ByteArray) : Prop:=(1<=s.size/\s.size<=8)/\∀ (i : Nat) (h : i < s.size),97<=s[i].toNat/\s[i].toNat<=122
def bg (e : Entry) : Prop:=(1<=e.client/\e.client<=8)/\(1<=e.seq/\e.seq<=1000000000)/\cK e.o
def lL (d : Doc) : Prop:=∀ (i : Nat) (h : i < d.seen.length),(1<=d.seen[i].client/\d.seen[i].client<=8)/\(1<=d.seen[i].seq/\d.seen[i].seq<=1000000000)/\(1<=d.seen[i].rev/\d.seen[i].rev<=ab d)/\(∀ h0 : 0 < i,d.seen[i - 1].client < d.seen[i].client)
def aK (d : Doc) : Prop:=es d.name/\(0<=d.fr/\d.fr<=999999000)/\bY d.text/\d.list.length<=8/\(∀ e∈d.list,bg e)/\(ak (d.list.map Entry.o) d.text).isSome = true/\lL d
open Classical in
noncomputable def aR (d : Doc) (rev : Int) : List Int × Bool:=if aK d/\d.fr<=rev/\rev<=ab d then br ((d.list.take (rev - d.fr).toNat).map Entry.o) d.text else ([],false)
noncomputable def aV (d : Doc) : List Int:=(aR d (ab d)).1
open Classical in
noncomputable def aG (d : Doc) (c : Int) : Seen × Bool:=match d.seen.find? (λs=>decide (s.client = c)) with
 | some s=>(s,true)
 | none=>(⟨0,0,0⟩,false)
noncomputable def cd (r : Rep) : Rep:=⟨r.client,r.seq + 1,r.rev,r.text,true,r.buf,aU (cA r.buf)⟩
open Classical in
noncomputable def bV (r : Rep) : Rep × Call × Bool:=if ar r/\r.has = false/\¬ idle r.buf/\r.seq≠999999999 then (cd r,⟨2,⟨#[]⟩,r.client,r.seq + 1,r.rev,r.buf,[]⟩,true) else (Rep.zero,⟨0,⟨#[]⟩,0,0,0,[],[]⟩,false)
end Go.Proofs.YtoldjebobgocpaaGreat
