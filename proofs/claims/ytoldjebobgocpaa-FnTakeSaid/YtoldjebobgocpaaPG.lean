import Derived.Test.YtoldjebobgocpaaPF
import Derived.Test.YtoldjebobgocpaaPE
import Derived.Test.YtoldjebobgocpaaNA
import Derived.Test.YtoldjebobgocpaaPD
import Derived.Test.YtoldjebobgocpaaMF
import Derived.Lib.AppendZerosOnto
import Derived.Lib.Overlaps
import Derived.Laws.IdiomCopy
import Derived.Laws.Externs
import Derived.Test.YtoldjebobgocpaaMG
import Derived.Shelf.RegionOpenPlain
namespace Go.Proofs.Ytoldjebobgocpaa
open Go.AM
set_option maxRecDepth 20000
def apA : List At→List Int→List Int
 | [],_=>[]
 | .k :: a,[]=>apA a []
 | .k :: a,c :: t=>c :: apA a t
 | .p c :: a,t=>c :: apA a t
 | .d :: a,t=>apA a (t.drop 1)
theorem apA_ks {a : List At} : ∀ (n : Nat) (t : List Int),n≤t.length→apA (List.replicate n .k ++ a) t = t.take n ++ apA a (t.drop n)
 | 0,t,_=>by simp
 | n + 1,[],h=>by simp at h
 | n + 1,c :: t,h=>by
   simp only [List.replicate_succ,List.cons_append,apA,List.take_succ_cons,List.drop_succ_cons];rw [apA_ks n t (by simpa using h)]
theorem apA_ps {a : List At} {t : List Int} : ∀ Q : List Int,apA (Q.map At.p ++ a) t = Q ++ apA a t
 | []=>rfl
 | c :: Q=>by simp only [List.map_cons,List.cons_append,apA,apA_ps Q]
theorem apA_ds {a : List At} : ∀ (n : Nat) (t : List Int),apA (List.replicate n .d ++ a) t = apA a (t.drop n)
 | 0,t=>by simp
 | n + 1,t=>by
   simp only [List.replicate_succ,List.cons_append,apA];rw [apA_ds n,List.drop_drop,Nat.add_comm]
theorem nA_ap : ∀ (l : List At) (P : List Int) (n : Nat) (t : List Int),apA (nA P n l) t = P ++ apA l (t.drop n)
 | [],P,n,t=>by
   have:=apA_ds (a:=[]) n t;simp only [List.append_nil] at this;rw [nA,apA_ps,this]
 | .k :: l,P,n,t=>by
   rw [nA,apA_ps,apA_ds]
   congr 1
   cases t.drop n with
   | nil=>simp only [apA];rw [nA_ap l];simp
   | cons c t=>simp only [apA];rw [nA_ap l];simp
 | .p c :: l,P,n,t=>by
   rw [nA,nA_ap l];simp [apA]
 | .d :: l,P,n,t=>by
   rw [nA,nA_ap l];simp [apA]
theorem normA_ap (l : List At) (t : List Int) : apA (normA l) t = apA l t:=by
 unfold normA;rw [nA_ap];simp
theorem tA_ap : ∀ (a b : List At) (t : List Int),frA a = t.length→frA b = t.length→apA (tA a b).2 (apA a t) = apA (tA a b).1 (apA b t)
 | .p c :: a,b,t,ha,hb=>by
   rw [tA_p];simp only [apA];rw [tA_ap a b t (by simpa [frA] using ha) hb]
 | [],.p c :: b,t,ha,hb=>by
   rw [tA_q rfl];simp only [apA];have:=tA_ap [] b t ha (by simpa [frA] using hb);simp only [apA] at this;rw [this]
 | .k :: a,.p c :: b,t,ha,hb=>by
   rw [tA_q rfl];simp only [apA];rw [tA_ap (.k :: a) b t ha (by simpa [frA] using hb)]
 | .d :: a,.p c :: b,t,ha,hb=>by
   rw [tA_q rfl];simp only [apA];have:=tA_ap (.d :: a) b t ha (by simpa [frA] using hb);simp only [apA] at this;rw [this]
 | .k :: a,.k :: b,[],ha,hb=>by simp [frA] at ha
 | .k :: a,.k :: b,c :: t,ha,hb=>by
   rw [tA];simp only [apA];rw [tA_ap a b t (by simpa [frA] using ha) (by simpa [frA] using hb)]
 | .k :: a,.d :: b,[],ha,hb=>by simp [frA] at ha
 | .k :: a,.d :: b,c :: t,ha,hb=>by
   rw [tA];simp only [apA,List.drop_succ_cons,List.drop_zero];exact tA_ap a b t (by simpa [frA] using ha) (by simpa [frA] using hb)
 | .d :: a,.k :: b,[],ha,hb=>by simp [frA] at ha
 | .d :: a,.k :: b,c :: t,ha,hb=>by
   rw [tA];simp only [apA,List.drop_succ_cons,List.drop_zero];exact tA_ap a b t (by simpa [frA] using ha) (by simpa [frA] using hb)
 | .d :: a,.d :: b,[],ha,hb=>by simp [frA] at ha
 | .d :: a,.d :: b,c :: t,ha,hb=>by
   rw [tA];simp only [apA,List.drop_succ_cons,List.drop_zero];exact tA_ap a b t (by simpa [frA] using ha) (by simpa [frA] using hb)
 | [],[],t,ha,hb=>by simp [tA,apA]
 | [],.k :: b,t,ha,hb=>by simp [frA] at ha hb;omega
 | [],.d :: b,t,ha,hb=>by simp [frA] at ha hb;omega
 | .k :: a,[],t,ha,hb=>by simp [frA] at ha hb;omega
 | .d :: a,[],t,ha,hb=>by simp [frA] at ha hb;omega
termination_by a b=>a.length + b.length
theorem tA_to : ∀ (a b : List At),toA (tA a b).1≤toA a + toA b
 | .p c :: a,b=>by rw [tA_p];have:=tA_to a b;simp only [toA];omega
 | [],.p c :: b=>by rw [tA_q rfl];have:=tA_to [] b;simp only [toA] at this ⊢;omega
 | .k :: a,.p c :: b=>by rw [tA_q rfl];have:=tA_to (.k :: a) b;simp only [toA] at this ⊢;omega
 | .d :: a,.p c :: b=>by rw [tA_q rfl];have:=tA_to (.d :: a) b;simp only [toA] at this ⊢;omega
 | .k :: a,.k :: b=>by rw [tA];have:=tA_to a b;simp only [toA];omega
 | .k :: a,.d :: b=>by rw [tA];have:=tA_to a b;simp only [toA];omega
 | .d :: a,.k :: b=>by rw [tA];have:=tA_to a b;simp only [toA];omega
 | .d :: a,.d :: b=>by rw [tA];have:=tA_to a b;simp only [toA];omega
 | [],[]=>by simp [tA,toA]
 | [],.k :: b=>by simp [tA,toA]
 | [],.d :: b=>by simp [tA,toA]
 | .k :: a,[]=>by simp [tA,toA]
 | .d :: a,[]=>by simp [tA,toA]
termination_by a b=>a.length + b.length
theorem run_ap : ∀ {o : List Part},(∀ p∈o,partOk p)→∀ {t acc : List Int} {n : Nat},n + frs o≤t.length→(o.foldl (apStep t) (acc,(n : Int))).1 = acc ++ apA (atoms o) (t.drop n)
 | [],_,t,acc,n,h=>by simp [atoms,apA]
 | p :: o,ho,t,acc,n,h=>by
   have hp:=ho p (List.mem_cons_self ..);have ho':=fun q hq=>ho q (List.mem_cons_of_mem _ hq)
   have hb:=hp.bounds;simp only [frs] at h;rw [List.foldl_cons,atoms];by_cases k1 : p.kind = 1
   ·have hz : psz p = p.n.toNat:=by unfold psz;simp [hb.2.2.2.2.2 (by omega)]
    rw [if_neg (by omega),hz] at h
    have e : apStep t (acc,(n : Int)) p = (acc ++ (t.drop n).take p.n.toNat,((n + p.n.toNat : Nat) : Int)):=by
     unfold apStep;simp [k1];omega
    rw [e,run_ap ho' (by omega)];have ea : ats p = List.replicate (psz p) .k:=by unfold ats;rw [if_neg (by omega),if_neg (by omega)]
    rw [ea,hz,apA_ks _ _ (by simp;omega),List.drop_drop,List.append_assoc]
   ·by_cases k2 : p.kind = 2
    ·rw [if_pos k2] at h
     have e : apStep t (acc,(n : Int)) p = (acc ++ p.signs,(n : Int)):=by unfold apStep;simp [k2]
     rw [e,run_ap ho' (by omega)];have ea : ats p = p.signs.map At.p:=by unfold ats;rw [if_pos k2]
     rw [ea,apA_ps,List.append_assoc]
    ·have k3 : p.kind = 3:=by omega
     have hz : psz p = p.n.toNat:=by unfold psz;simp [hb.2.2.2.2.2 (by omega)]
     rw [if_neg (by omega),hz] at h
     have e : apStep t (acc,(n : Int)) p = (acc,((n + p.n.toNat : Nat) : Int)):=by
      unfold apStep;simp [k3];omega
     rw [e,run_ap ho' (by omega)];have ea : ats p = List.replicate (psz p) .d:=by unfold ats;rw [if_neg (by omega),if_pos k3]
     rw [ea,hz,apA_ds,List.drop_drop]
theorem apply_ap {o : List Part} {t : List Int} (h : fits3 o t) : apply o t = (apA (atoms o) t,true):=by
 have h1:=frs_from h.1;have h2:=h.2.2;have:=run_ap h.1.1.1 (t:=t) (acc:=[]) (n:=0) (by omega);unfold apply;rw [if_pos h];unfold apRun;simp only [Int.ofNat_zero,List.nil_append,List.drop_zero] at this;exact Prod.ext this rfl
theorem atoms_fr {o : List Part} (h : opOk o) : (frA (atoms o) : Int) = opFrom o:=by rw [← frs_at];exact frs_from h
theorem atoms_to {o : List Part} (h : opOk o) : (toA (atoms o) : Int) = opTo o:=by rw [← tos_at h.1.1];exact tos_to h
theorem norm_fit {o : List Part} (h : ∀ p∈o,partOk p) (h1 : frs o≤200) (h2 : tos o≤200) : opOk (normal o)∧opFrom (normal o) = frs o∧opTo (normal o) = tos o:=by
 have hs:=normal_shp h;have e1 : frs (normal o) = frs o:=by rw [frs_at,normal_at h,normA_fr,← frs_at]
 have e2 : tos (normal o) = tos o:=by rw [tos_shp hs,normal_at h,normA_to,← tos_at h]
 have hp:=shp_ok hs (by omega) (by omega);have f2:=parts_from hp;have t2:=parts_to hp;exact ⟨⟨hp,by omega,by omega⟩,by omega,by omega⟩
structure CpOk (x y : List Part) : Prop where
 ok : ∀ p∈cmp x y,partOk p
 fr : frA (atoms (cmp x y)) = frA (atoms x)
 to : toA (atoms (cmp x y)) = toA (atoms y)
 ap : ∀ t : List Int,frA (atoms x)≤t.length→apA (atoms (cmp x y)) t = apA (atoms y) (apA (atoms x) t)
theorem ats_put {p : Part} (k : p.kind = 2) (n : Nat) : ats (pcut p n) = (p.signs.take n).map At.p:=by
 unfold pcut ats;rw [if_pos k];simp [k]
theorem cmp_ok : ∀ (k : Nat) {x y : List Part},CInv x y→tsz x + tsz y≤k→CpOk x y
 | k,x,y,hi,hk=>by
   have ax:=atoms_nxt hi.px;have ay:=atoms_nxt hi.py
   cases hs : cstep x y with
   | none=>
     have hb:=hi.b;have hxt:=nxt_tos x;have hyf:=nxt_frs y
     have h0 : nxt x = []∧nxt y = []:=by
      unfold cstep at hs
      cases ex : nxt x with
      | nil=>
        refine ⟨rfl,?_⟩
        cases ey : nxt y with
        | nil=>rfl
        | cons q y'=>
          rw [ex,ey] at hs;have hq:=mem_nxt hi.py ey;have hqp:=nxt_pos ey;simp only at hs
          split at hs
          ·cases hs
          ·rename_i k2
           rw [ex] at hxt;rw [ey] at hyf;simp [tos,frs,k2] at hxt hyf;omega
      | cons p x'=>
        rw [ex] at hs;have hpp:=nxt_pos ex;simp only at hs
        split at hs
        ·cases hs
        ·rename_i k3
         cases ey : nxt y with
         | nil=>
           rw [ex] at hxt;rw [ey] at hyf;simp [tos,frs,k3] at hxt hyf;omega
         | cons q y'=>
           rw [ey] at hs;simp only at hs
           split at hs<;>cases hs
     rw [h0.1] at ax;rw [h0.2] at ay;have e:=cmp_none hs;exact ⟨by rw [e];simp,by rw [e,← ax],by rw [e,← ay],fun t ht=>by rw [e,← ax,← ay];rfl⟩
   | some r=>
     have hn:=cstep_next hi hs;have hd:=hn.dec;have ih:=cmp_ok (k - 1) hn.inv (by omega);have e:=cmp_some hi hs
     have hok : ∀ p∈cmp x y,partOk p:=by
      rw [e];intro p hp;exact (List.mem_append.1 hp).elim (hn.ok p) (ih.ok p)
     have hb:=hi.b;unfold cstep at hs
     cases ex : nxt x with
     | nil=>
       rw [ex] at hs ax
       cases ey : nxt y with
       | nil=>rw [ey] at hs;simp at hs
       | cons q y'=>
         rw [ey] at hs ay;have hq:=(mem_nxt hi.py ey).1;simp only at hs
         split at hs
         ·rename_i k2
          cases hs
          have sq:=ats_split hq (n:=psz q) (Nat.le_refl _);have aq:=ats_put k2 (psz q);simp only [atoms] at ax ay;refine ⟨hok,?_,?_,fun t ht=>?_⟩
          ·rw [e,atoms_append,frA_append,ih.fr,← ax];simp only [atoms,List.append_nil];rw [aq,frA_ps];simp
          ·rw [e,atoms_append,toA_append,ih.to,← ay,sq];simp only [atoms,List.append_nil,toA_append];omega
          ·rw [e,atoms_append,← ax,← ay,sq]
           simp only [atoms,List.append_nil,List.append_assoc,aq,apA_ps];have:=ih.ap t (by simp [atoms,frA]);rw [this];simp only [atoms]
         ·cases hs
     | cons p x'=>
       rw [ex] at hs ax;have hp:=(mem_nxt hi.px ex).1;have hpp:=nxt_pos ex;simp only [atoms] at ax;simp only at hs
       split at hs
       ·rename_i k3
        cases hs
        have sp:=ats_split hp (n:=psz p) (Nat.le_refl _);have ap:=ats_cut hp (by omega) (n:=psz p) (Nat.le_refl _);rw [if_pos k3] at ap;refine ⟨hok,?_,?_,fun t ht=>?_⟩
        ·rw [e,atoms_append,frA_append,ih.fr,← ax,sp];simp only [atoms,List.append_nil,frA_append];omega
        ·rw [e,atoms_append,toA_append,ih.to];simp only [atoms,List.append_nil,ap,toA_ds];omega
        ·rw [← ax,sp,List.append_assoc,frA_append,ap,frA_ds] at ht
         rw [e,atoms_append,← ax,sp];simp only [atoms,List.append_nil,List.append_assoc,ap,apA_ds];have:=ih.ap (t.drop (psz p)) (by simp only [atoms,List.length_drop];omega)
         simpa only [atoms] using this
       ·rename_i k3
        cases ey : nxt y with
        | nil=>rw [ey] at hs;simp at hs
        | cons q y'=>
          rw [ey] at hs ay;have hq:=(mem_nxt hi.py ey).1;simp only [atoms] at ay;simp only at hs
          split at hs
          ·rename_i k2
           cases hs
           have sq:=ats_split hq (n:=psz q) (Nat.le_refl _);have aq:=ats_put k2 (psz q);refine ⟨hok,?_,?_,fun t ht=>?_⟩
           ·rw [e,atoms_append,frA_append,ih.fr,← ax];simp only [atoms,List.append_nil];rw [aq,frA_ps];simp
           ·rw [e,atoms_append,toA_append,ih.to,← ay,sq];simp only [atoms,List.append_nil,toA_append];omega
           ·rw [← ax] at ht
            rw [e,atoms_append,← ax,← ay,sq];simp only [atoms,List.append_nil,List.append_assoc,aq,apA_ps];have:=ih.ap t (by simpa only [atoms] using ht);rw [this];simp only [atoms]
          ·rename_i k2
           cases hs
           generalize hm : min (psz p) (psz q) = m at ih e hok hn hd;have hm1 : m≤psz p:=by omega
           have hm2 : m≤psz q:=by omega
           have sp:=ats_split hp hm1;have sq:=ats_split hq hm2;have aq:=ats_cut hq k2 hm2;by_cases q1 : q.kind = 1
           ·rw [if_pos q1] at e
            rw [if_neg (by omega)] at aq;by_cases p2 : p.kind = 2
            ·have ap:=ats_put p2 m
             have hl : (p.signs.take m).length = m:=by
              have:=psz_put hp p2;simp;omega
             refine ⟨hok,?_,?_,fun t ht=>?_⟩
             ·rw [e,atoms_append,frA_append,ih.fr,← ax,sp];simp only [atoms,List.append_nil,frA_append];omega
             ·rw [e,atoms_append,toA_append,ih.to,← ay,sq];simp only [atoms,List.append_nil,toA_append,ap,aq,toA_ps,toA_ks,hl];omega
             ·rw [← ax,sp,List.append_assoc,frA_append,ap,frA_ps] at ht
              rw [e,atoms_append,← ax,← ay,sp,sq];simp only [atoms,List.append_nil,List.append_assoc,ap,aq,apA_ps];rw [apA_ks _ _ (by simp only [List.length_append,hl];omega)];have h1:=List.take_left' (l₂:=apA (ats (pleft p m) ++ atoms x') t) hl;have h2:=List.drop_left' (l₂:=apA (ats (pleft p m) ++ atoms x') t) hl;rw [h1,h2];have:=ih.ap t (by simp only [atoms];omega);rw [this];simp only [atoms]
            ·have ap:=ats_cut hp p2 hm1
             rw [if_neg k3] at ap;refine ⟨hok,?_,?_,fun t ht=>?_⟩
             ·rw [e,atoms_append,frA_append,ih.fr,← ax,sp];simp only [atoms,List.append_nil,frA_append];omega
             ·rw [e,atoms_append,toA_append,ih.to,← ay,sq];simp only [atoms,List.append_nil,toA_append,ap,aq];omega
             ·rw [← ax,sp,List.append_assoc,frA_append,ap,frA_ks] at ht
              rw [e,atoms_append,← ax,← ay,sp,sq];simp only [atoms,List.append_nil,List.append_assoc,ap,aq];rw [apA_ks m t (by omega),apA_ks m t (by omega),apA_ks _ _ (by simp;omega)];have hl : (t.take m).length = m:=by simp;omega
              have h1:=List.take_left' (l₂:=apA (ats (pleft p m) ++ atoms x') (t.drop m)) hl;have h2:=List.drop_left' (l₂:=apA (ats (pleft p m) ++ atoms x') (t.drop m)) hl;rw [h1,h2];have:=ih.ap (t.drop m) (by simp only [atoms,List.length_drop];omega);rw [this];simp only [atoms]
           ·have q3 : q.kind = 3:=by have:=hq.bounds.1;omega
            rw [if_neg q1] at e;rw [if_pos q3] at aq;by_cases p1 : p.kind = 1
            ·rw [if_pos p1] at e
             have ap:=ats_cut hp (by omega) hm1;rw [if_neg k3] at ap;refine ⟨hok,?_,?_,fun t ht=>?_⟩
             ·rw [e,atoms_append,frA_append,ih.fr,← ax,sp];simp only [atoms,List.append_nil,frA_append,ap,aq,frA_ks,frA_ds];omega
             ·rw [e,atoms_append,toA_append,ih.to,← ay,sq];simp only [atoms,List.append_nil,toA_append];omega
             ·rw [← ax,sp,List.append_assoc,frA_append,ap,frA_ks] at ht
              rw [e,atoms_append,← ax,← ay,sp,sq];simp only [atoms,List.append_nil,List.append_assoc,ap,aq,apA_ds];rw [apA_ks m t (by omega)];have hl : (t.take m).length = m:=by simp;omega
              have h2:=List.drop_left' (l₂:=apA (ats (pleft p m) ++ atoms x') (t.drop m)) hl;rw [h2];have:=ih.ap (t.drop m) (by simp only [atoms,List.length_drop];omega);rw [this];simp only [atoms]
            ·rw [if_neg p1] at e
             have p2 : p.kind = 2:=by have:=hp.bounds.1;omega
             have ap:=ats_put p2 m
             have hl : (p.signs.take m).length = m:=by
              have:=psz_put hp p2;simp;omega
             refine ⟨hok,?_,?_,fun t ht=>?_⟩
             ·rw [e,atoms_append,frA_append,ih.fr,← ax,sp];simp only [atoms,frA_append,ap,frA_ps,frA];omega
             ·rw [e,atoms_append,toA_append,ih.to,← ay,sq];simp only [atoms,toA_append,aq,toA_ds,toA];omega
             ·rw [← ax,sp,List.append_assoc,frA_append,ap,frA_ps] at ht
              rw [e,atoms_append,← ax,← ay,sp,sq];simp only [atoms,List.nil_append,List.append_assoc,ap,aq,apA_ds,apA_ps];have h2:=List.drop_left' (l₂:=apA (ats (pleft p m) ++ atoms x') t) hl;rw [h2];have:=ih.ap t (by simp only [atoms];omega);rw [this];simp only [atoms]
termination_by k=>k
decreasing_by omega
theorem fCompose_fit {a b : List Part} (ha : opOk a) (hb : opOk b) (h : opTo a = opFrom b) :
 (fCompose a b).2 = true ∧ isNorm (fCompose a b).1 ∧ opFrom (fCompose a b).1 = opFrom a ∧ opTo (fCompose a b).1 = opTo b ∧
 ∀ t : List Int,textOk t→opFrom a = t.length→(apply (fCompose a b).1 t).1 = (apply b (apply a t).1).1:=by
 have hi:=cinv_of ha hb h;have c:=cmp_ok _ hi (Nat.le_refl _);have f1:=atoms_fr ha;have t1:=atoms_to hb;have g1:=ha.2.1;have g2:=hb.2.2;have n:=norm_fit c.ok (by rw [frs_at,c.fr];omega) (by rw [tos_at c.ok,c.to];omega);have e : fCompose a b = (normal (cmp a b),true):=by unfold fCompose;rw [if_pos ⟨ha,hb,h⟩,if_pos n.1]
 have n1:=n.2.1;have n2:=n.2.2;rw [frs_at,c.fr] at n1;rw [tos_at c.ok,c.to] at n2
 have hnn : isNorm (normal (cmp a b)):=by
  have hx:=normal_at c.ok;refine ⟨n.1,?_⟩;unfold opNorm;rw [if_pos n.1,normal_grp n.1.1.1,hx,normal_grp c.ok];unfold normA;rw [nA_nA]
 rw [e];refine ⟨rfl,hnn,by simp only;omega,by simp only;omega,fun t ht hf=>?_⟩;have fa : fits3 a t:=⟨ha,ht,hf⟩;have ta:=apply_textOk fa;have fb : fits3 b (apply a t).1:=⟨hb,ta.1,by omega⟩;have fc : fits3 (normal (cmp a b)) t:=⟨n.1,ht,by omega⟩;rw [apply_ap fc,apply_ap fb,apply_ap fa];simp only;rw [normal_at c.ok,normA_ap];exact c.ap t (by omega)
theorem fTransform_fit {a b : List Part} (ha : opOk a) (hb : opOk b) (h : opFrom a = opFrom b) (hs : opTo a + opTo b≤200) :
 (fTransform a b).2.2 = true∧isNorm (fTransform a b).1∧isNorm (fTransform a b).2.1∧opTo (fTransform a b).1≤opTo a + opTo b:=by
 have hi:=tinv_of ha hb h;have hat:=xf_at hi;have hk:=xf_ok hi;have e1 : atoms (xf a b).1 = (tA (atoms a) (atoms b)).1:=by rw [← hat]
 have e2 : atoms (xf a b).2 = (tA (atoms a) (atoms b)).2:=by rw [← hat]
 have l:=tA_len (atoms a) (atoms b) (by rw [← frs_at,← frs_at];exact hi.b);have lt:=tA_to (atoms a) (atoms b);have t3:=atoms_to ha;have t4:=atoms_to hb;have g1:=ha.2.2;have g2:=hb.2.2;have n1:=norm_fit hk.1 (by rw [frs_at,e1,l.1];omega) (by rw [tos_at hk.1,e1];omega);have n2:=norm_fit hk.2 (by rw [frs_at,e2,l.2.1];omega) (by rw [tos_at hk.2,e2,← l.2.2];omega);have e : fTransform a b = (normal (xf a b).1,normal (xf a b).2,true):=by unfold fTransform;rw [if_pos ⟨ha,hb,h⟩,if_pos ⟨n1.1,n2.1⟩]
 have hnn : ∀ {z : List Part},(∀ p∈z,partOk p)→opOk (normal z)→isNorm (normal z):=by
  intro z hz ho;have hx:=normal_at hz;refine ⟨ho,?_⟩;unfold opNorm;rw [if_pos ho,normal_grp ho.1.1,hx,normal_grp hz];unfold normA;rw [nA_nA]
 rw [e];refine ⟨rfl,hnn hk.1 n1.1,hnn hk.2 n2.1,?_⟩;have:=n1.2.2;rw [tos_at hk.1,e1] at this;simp only;omega
theorem fTransform_ap {a b : List Part} (h : (fTransform a b).2.2 = true) {t : List Int} (ht : textOk t) (hf : opFrom a = t.length) :
 (apply (fTransform a b).2.1 (apply a t).1).2 = true∧(apply (fTransform a b).1 (apply b t).1).2 = true∧(apply (fTransform a b).2.1 (apply a t).1).1 = (apply (fTransform a b).1 (apply b t).1).1:=by
 have o:=fTransform_ok h;have fa : fits3 a t:=⟨o.oka,ht,hf⟩;have fb : fits3 b t:=⟨o.okb,ht,by rw [← o.from_];exact hf⟩;have ta:=apply_textOk fa;have tb:=apply_textOk fb;have fx : fits3 (fTransform a b).2.1 (apply a t).1:=⟨o.oky,ta.1,by rw [o.fy];omega⟩;have fy : fits3 (fTransform a b).1 (apply b t).1:=⟨o.okx,tb.1,by rw [o.fx];omega⟩;refine ⟨apply_yes.2 fx,apply_yes.2 fy,?_⟩;have f1:=atoms_fr o.oka;have f2:=atoms_fr o.okb;rw [apply_ap fx,apply_ap fy,apply_ap fa,apply_ap fb];simp only;rw [o.ax,o.ay,normA_ap,normA_ap];exact tA_ap _ _ _ (by omega) (by have:=o.from_;omega)
set_option maxHeartbeats 1600000
theorem fTransform_no {a b : List Part} (h : ¬ (opOk a∧opOk b∧opFrom a = opFrom b)) : fTransform a b = ([],[],false):=by unfold fTransform;rw [if_neg h]
theorem fTransform_yes {a b : List Part} (h1 : opOk a) (h2 : opOk b) (h3 : opFrom a = opFrom b) : (opOk (normal (xf a b).1)∧opOk (normal (xf a b).2)→fTransform a b = (normal (xf a b).1,normal (xf a b).2,true))∧(¬ (opOk (normal (xf a b).1)∧opOk (normal (xf a b).2))→fTransform a b = ([],[],false)):=by
 unfold fTransform;rw [if_pos ⟨h1,h2,h3⟩];exact ⟨fun h=>by rw [if_pos h],fun h=>by rw [if_neg h]⟩
theorem mem_app {P : Part→Prop} {a b : List Part} (ha : ∀ p∈a,P p) (hb : ∀ p∈b,P p) : ∀ p∈a ++ b,P p:=by
 intro p hp;rcases List.mem_append.1 hp with hp | hp
 ·exact ha p hp
 ·exact hb p hp
theorem xf_next {X Y L M : List Part} {a b : List Part} (hi : TInv X Y) {r : XR} (hc : tstep X Y = some r) (h1 : L ++ (xf X Y).1 = (xf a b).1) (h2 : M ++ (xf X Y).2 = (xf a b).2) : (L ++ r.1.1) ++ (xf r.2.1 r.2.2).1 = (xf a b).1∧(M ++ r.1.2) ++ (xf r.2.1 r.2.2).2 = (xf a b).2:=by
 have h:=xf_some hi hc;rw [← h1,← h2,h];simp
theorem implTransform_i (a b : List Part) (ha : nL nPart a≤2 ^ 40) (hb : nL nPart b≤2 ^ 40) : PureC Try.prog 21 [.c (.s (a.map Part.row)),.c (.s (b.map Part.row))] (.tup [.c (.s ((fTransform a b).1.map Part.row)) 3,.c (.s ((fTransform a b).2.1.map Part.row)) 3,.c (.v (.bool (fTransform a b).2.2)) 1]):=by
 refine PureC.intro' tt_ok Try.func21 (by kernel_rfl) rfl rfl rfl (Nat.le_of_ble_eq_true rfl) (fun w0 base=>?_);simp;refine ACall.pure (implOpOk_c a ha) (by simp) ?_;by_cases c1 : opOk a
 rotate_left
 ·have e:=fTransform_no (a:=a) (b:=b) (fun h=>c1 h.1)
  have e2 : dc (opOk a) = false:=by rw [dc_no];exact c1
  simp [e2,e]
 simp [c1];refine ACall.pure (implOpOk_c b hb) (by simp) ?_;by_cases c2 : opOk b
 rotate_left
 ·have e:=fTransform_no (a:=a) (b:=b) (fun h=>c2 h.2.1)
  have e2 : dc (opOk b) = false:=by rw [dc_no];exact c2
  simp [e2,e]
 simp [c2];refine ACall.pure (implOpFrom_c a ha) (by simp) ?_;simp;refine ACall.pure (implOpFrom_c b hb) (by simp) ?_;by_cases c3 : opFrom a = opFrom b
 rotate_left
 ·have e:=fTransform_no (a:=a) (b:=b) (fun h=>c3 h.2.2)
  simp [c3,e]
 have hf:=fTransform_yes c1 c2 c3;simp [c3];intro bx by_;have t1:=tsz_ok c1;have t2:=tsz_ok c2
 refine LoopT.introG eok (fun x : List Part × List Part × List Part × List Part × Hd × Hd=>TInv x.1 x.2.1∧(x.2.2.1 ++ (xf x.1 x.2.1).1 = (xf a b).1∧x.2.2.2.1 ++ (xf x.1 x.2.1).2 = (xf a b).2)∧((∀ p∈x.2.2.1,partOk p)∧(∀ p∈x.2.2.2.1,partOk p))∧(x.2.2.1.length + (tsz x.1 + tsz x.2.1)≤800∧x.2.2.2.1.length + (tsz x.1 + tsz x.2.1)≤800)∧x.1.length≤1000∧x.2.1.length≤1000)
  (fun x=>⟨124,0,[(7,.p 528 bx 0),(8,.p 576 by_ 0),(9,.sl 5000 x.2.2.2.2.1 3 0 x.2.2.1.length),(10,.sl 5001 x.2.2.2.2.2 3 0 x.2.2.2.1.length)],
  [(528,.vars bx 94 [.ro (x.1.map Part.row)]),(576,.vars by_ 94 [.ro (x.2.1.map Part.row)]),(5000,.rows x.2.2.2.2.1 3 (x.2.2.1.map Part.row) false),(5001,.rows x.2.2.2.2.2 3 (x.2.2.2.1.map Part.row) false)]⟩) (fun x=>tsz x.1 + tsz x.2.1) (a,b,[],[],none,none)
  ⟨tinv_of c1 c2 c3,by simp,by simp,by simp;omega,by have:=c1.1.2;simp only;omega,by have:=c2.1.2;simp only;omega⟩ (by simp) (fun x hx=>Ent.refl ?_)
 obtain ⟨X,Y,L,M,H,G⟩:=x;obtain ⟨hi,⟨hcx,hcy⟩,⟨hL,hM⟩,⟨hlen,hlen2⟩,hlx,hly⟩:=hx;simp only at hi hcx hcy hL hM hlen hlen2 hlx hly ⊢;have xl:=nxt_len X;have yl:=nxt_len Y;obtain ⟨h0,hh0⟩ : ∃ h0 : AH,[(528,.vars bx 94 [.ro (X.map Part.row)]),(576,.vars by_ 94 [.ro (Y.map Part.row)]),(5000,.rows H 3 (L.map Part.row) false),(5001,.rows G 3 (M.map Part.row) false)] = h0:=⟨_,rfl⟩;have R : RS 528 576 bx by_ h0 h0 X Y:=⟨by decide,by decide,by decide,by rw [← hh0];simp,by rw [← hh0];simp,fun _ _ _ _=>rfl⟩;have g5 : AH.get h0 5000 = .rows H 3 (L.map Part.row) false:=by rw [← hh0];simp
 have g6 : AH.get h0 5001 = .rows G 3 (M.map Part.row) false:=by rw [← hh0];simp
 rw [hh0]
 clear hh0
 simp;refine R.next hi.px (fun h1 R=>?_);have okx : ∀ p∈nxt X,partOk p:=fun p hp=>hi.px p (nxt_mem hp)
 have oky : ∀ p∈nxt Y,partOk p:=fun p hp=>hi.py p (nxt_mem hp)
 have hxt:=nxt_frs X;have hyf:=nxt_frs Y;have hbal:=hi.b
 cases ex : nxt X with
 | nil=>
   rw [ex] at R;simp [hdV_nil];refine R.swap.next hi.py (fun h2 R=>?_);have R:=R.swap
   cases ey : nxt Y with
   | nil=>
     have hc : xf X Y = ([],[]):=xf_none (by simp [tstep,ex,ey]);simp [hdV_nil];rw [hc] at hcx hcy;simp only [List.append_nil] at hcx hcy;have e5:=R.o 5000 (by decide) (by decide) (by decide);have e6:=R.o 5001 (by decide) (by decide) (by decide);refine ACall.pure (normal_c L hL (by omega)) (by simp [e5,g5]) ?_;simp;intro H2;refine ACall.pure (normal_c M hM (by omega)) (by simp [e6,g6]) ?_;simp;intro H3;rw [hcx] at hL hlen ⊢;rw [hcy] at hM hlen2 ⊢;refine ACall.pure (implOpOk_c (normal (xf a b).1) (by have:=nL_normal hL;omega)) (by simp) ?_;by_cases c4 : opOk (normal (xf a b).1)
     rotate_left
     ·have e:=hf.2 (fun h=>c4 h.1)
      have e2 : dc (opOk (normal (xf a b).1)) = false:=by rw [dc_no];exact c4
      simp [e2,e]
     simp [c4];refine ACall.pure (implOpOk_c (normal (xf a b).2) (by have:=nL_normal hM;omega)) (by simp) ?_;by_cases c5 : opOk (normal (xf a b).2)
     rotate_left
     ·have e:=hf.2 (fun h=>c5 h.2)
      have e2 : dc (opOk (normal (xf a b).2)) = false:=by rw [dc_no];exact c5
      simp [e2,e]
     have e:=hf.1 ⟨c4,c5⟩;simp [c5,e]
   | cons q y'=>
     rw [ey] at R;have hq:=(mem_nxt hi.py ey).1;have hqb:=hq.bounds;have q0 : ¬ q.kind = 0:=by omega
     simp [hdV_cons,q0];refine R.next (by simp) (fun h3 R=>?_);simp only [nxt] at R;simp [nxt,hdV_nil];refine R.swap.next (by rw [← ey];exact oky) (fun h4 R=>?_);have R:=R.swap;rw [← ey,nxt_nxt,ey] at R;rw [← ey,nxt_nxt,ey];by_cases q2 : q.kind = 2
     ·simp [hdV_cons,q2]
      refine R.swap.whole hq (by simp [ey] at yl;omega) (fun h5 R=>?_);have R:=R.swap;have e5:=R.o 5000 (by decide) (by decide) (by decide);have e6:=R.o 5001 (by decide) (by decide) (by decide);have hc : tstep X Y = some (([⟨1,q.signs.length,[]⟩],[pcut q (psz q)]),[],pleft q (psz q) :: y'):=by simp [tstep,ex,ey,q2]
      rw [pcut_whole hq] at hc;have hn:=tstep_next hi hc;have hdec:=hn.dec;have hcm:=xf_next hi hc hcx hcy;simp only at hcm hdec;rw [hdV_cons];simp;intro b1;simp [e5,g5,e6,g6];intro b2;refine ⟨by omega,fun H2 b3=>⟨by omega,fun G2=>?_⟩⟩;refine Ent.refl ⟨[],pleft q (psz q) :: y',L ++ [⟨1,q.signs.length,[]⟩],M ++ [q],⟨hn.inv,hcm,⟨mem_app hL hn.okx,mem_app hM hn.oky⟩,⟨by simp;omega,by simp;omega⟩,by simp,by simp [ey] at yl ⊢;omega⟩,hdec,H2,G2,?_⟩;simp [R.gx,R.gy,Part.row]
     ·exfalso
      have:=nxt_pos ey;rw [ex] at hxt;rw [ey] at hyf;simp [frs,q2] at hxt hyf;omega
 | cons p x'=>
   rw [ex] at R;have hp:=(mem_nxt hi.px ex).1;have hpb:=hp.bounds;have p0 : ¬ p.kind = 0:=by omega
   simp [hdV_cons,p0];refine R.next (by rw [← ex];exact okx) (fun h3 R=>?_);rw [← ex,nxt_nxt,ex] at R;rw [← ex,nxt_nxt,ex];by_cases p2 : p.kind = 2
   ·simp [hdV_cons,p2]
    refine R.whole hp (by simp [ex] at xl;omega) (fun h5 R=>?_);have e5:=R.o 5000 (by decide) (by decide) (by decide);have e6:=R.o 5001 (by decide) (by decide) (by decide);have hc : tstep X Y = some (([pcut p (psz p)],[⟨1,p.signs.length,[]⟩]),pleft p (psz p) :: x',Y):=by simp [tstep,ex,p2]
    rw [pcut_whole hp] at hc;have hn:=tstep_next hi hc;have hdec:=hn.dec;have hcm:=xf_next hi hc hcx hcy;simp only at hcm hdec;rw [hdV_cons];simp;intro b1;simp [e5,g5,e6,g6];intro b2;refine ⟨by omega,fun H2 b3=>⟨by omega,fun G2=>?_⟩⟩;refine Ent.refl ⟨pleft p (psz p) :: x',Y,L ++ [p],M ++ [⟨1,p.signs.length,[]⟩],⟨hn.inv,hcm,⟨mem_app hL hn.okx,mem_app hM hn.oky⟩,⟨by simp;omega,by simp;omega⟩,by simp [ex] at xl ⊢;omega,hly⟩,hdec,H2,G2,?_⟩;simp [R.gx,R.gy,Part.row]
   ·simp [hdV_cons,p2]
    refine R.swap.next hi.py (fun h4 R=>?_);have R:=R.swap
    cases ey : nxt Y with
    | nil=>
      exfalso
      have:=nxt_pos ex;rw [ex] at hxt;rw [ey] at hyf;simp [frs,p2] at hxt hyf;omega
    | cons q y'=>
      rw [ey] at R;have hq:=(mem_nxt hi.py ey).1;have hqb:=hq.bounds;by_cases q2 : q.kind = 2
      ·simp [hdV_cons,q2]
       refine R.swap.whole hq (by simp [ey] at yl;omega) (fun h5 R=>?_);have R:=R.swap;have e5:=R.o 5000 (by decide) (by decide) (by decide);have e6:=R.o 5001 (by decide) (by decide) (by decide);have hc : tstep X Y = some (([⟨1,q.signs.length,[]⟩],[pcut q (psz q)]),p :: x',pleft q (psz q) :: y'):=by simp [tstep,ex,ey,q2,p2]
       rw [pcut_whole hq] at hc;have hn:=tstep_next hi hc;have hdec:=hn.dec;have hcm:=xf_next hi hc hcx hcy;simp only at hcm hdec;rw [hdV_cons];simp;intro b1;simp [e5,g5,e6,g6];intro b2;refine ⟨by omega,fun H2 b3=>⟨by omega,fun G2=>?_⟩⟩;refine Ent.refl ⟨p :: x',pleft q (psz q) :: y',L ++ [⟨1,q.signs.length,[]⟩],M ++ [q],⟨hn.inv,hcm,⟨mem_app hL hn.okx,mem_app hM hn.oky⟩,⟨by simp;omega,by simp;omega⟩,by simp [ex] at xl ⊢;omega,by simp [ey] at yl ⊢;omega⟩,hdec,H2,G2,?_⟩;simp [R.gx,R.gy,Part.row]
      ·simp [hdV_cons,q2]
       refine R.next (by rw [← ex];exact okx) (fun h5 R=>?_);rw [← ex,nxt_nxt,ex] at R;rw [← ex,nxt_nxt,ex];simp [hdV_cons];refine ACall.pure (implSize_c p hp) (by simp [Part.row]) ?_;simp;refine R.swap.next (by rw [← ey];exact oky) (fun h6 R=>?_);have R:=R.swap;rw [← ey,nxt_nxt,ey] at R;rw [← ey,nxt_nxt,ey];simp [hdV_cons];refine ACall.pure (implSize_c q hq) (by simp [Part.row]) ?_;simp;rw [aMin_n];obtain ⟨n,hn⟩ : ∃ n,min (psz p) (psz q) = n:=⟨_,rfl⟩;rw [hn];simp;refine R.take hp (n:=n) (by omega) (by simp [ex] at xl;omega) (fun h7 R=>?_);rw [hdV_cons];obtain ⟨pc,hpc⟩ : ∃ pc,pcut p n = pc:=⟨_,rfl⟩;have pk : pc.kind = p.kind:=by rw [← hpc];simp
       rw [hpc];simp;refine R.swap.take hq (n:=n) (by omega) (by simp [ey] at yl;omega) (fun h8 R=>?_);have R:=R.swap;rw [hdV_cons];obtain ⟨qc,hqc⟩ : ∃ qc,pcut q n = qc:=⟨_,rfl⟩;have qk : qc.kind = q.kind:=by rw [← hqc];simp
       rw [hqc];have e5:=R.o 5000 (by decide) (by decide) (by decide);have e6:=R.o 5001 (by decide) (by decide) (by decide);have hc : tstep X Y = some ((if q.kind = 1 then [pc] else [],if p.kind = 1 then [qc] else []),pleft p n :: x',pleft q n :: y'):=by simp [tstep,ex,ey,p2,q2,hn,hpc,hqc]
       have hnx:=tstep_next hi hc;have hdec:=hnx.dec;have hcm:=xf_next hi hc hcx hcy;have okx':=hnx.okx;have oky':=hnx.oky;have hinv:=hnx.inv
       clear hnx hc
       simp only at hcm hdec okx' oky' hinv;have hlx2 : (pleft p n :: x').length≤1000:=by simp [ex] at xl ⊢;omega
       have hly2 : (pleft q n :: y').length≤1000:=by simp [ey] at yl ⊢;omega
       simp;intro b1 b2;by_cases q1 : q.kind = 1
       ·by_cases p1 : p.kind = 1
        ·simp only [q1,p1,if_true] at hcm okx' oky'
         simp [qk,q1,pk,p1,e5,g5,e6,g6];intro b3;refine ⟨by omega,fun H2 b4=>⟨by omega,fun G2=>?_⟩⟩;refine Ent.refl ⟨pleft p n :: x',pleft q n :: y',L ++ [pc],M ++ [qc],⟨hinv,hcm,⟨mem_app hL okx',mem_app hM oky'⟩,⟨by simp;omega,by simp;omega⟩,hlx2,hly2⟩,hdec,H2,G2,?_⟩;simp [R.gx,R.gy,Part.row,pk,qk,p1,q1]
        ·simp only [q1,p1,if_true,if_false] at hcm okx' oky'
         simp [qk,q1,pk,p1,e5,g5];intro b3;refine ⟨by omega,fun H2=>?_⟩;refine Ent.refl ⟨pleft p n :: x',pleft q n :: y',L ++ [pc],M,⟨hinv,by simpa using hcm,⟨mem_app hL okx',hM⟩,⟨by simp;omega,by omega⟩,hlx2,hly2⟩,hdec,H2,G,?_⟩;simp [R.gx,R.gy,Part.row,pk,q1,e6,g6]
       ·by_cases p1 : p.kind = 1
        ·simp only [q1,p1,if_true,if_false] at hcm okx' oky'
         simp [qk,q1,pk,p1,e6,g6];intro b3;refine ⟨by omega,fun G2=>?_⟩;refine Ent.refl ⟨pleft p n :: x',pleft q n :: y',L,M ++ [qc],⟨hinv,by simpa using hcm,⟨hL,mem_app hM oky'⟩,⟨by omega,by simp;omega⟩,hlx2,hly2⟩,hdec,H,G2,?_⟩;simp [R.gx,R.gy,Part.row,qk,p1,e5,g5]
        ·simp only [q1,p1,if_false] at hcm okx' oky'
         simp [qk,q1,pk,p1];refine Ent.refl ⟨pleft p n :: x',pleft q n :: y',L,M,⟨hinv,by simpa using hcm,⟨hL,hM⟩,⟨by omega,by omega⟩,hlx2,hly2⟩,hdec,H,G,?_⟩;simp [R.gx,R.gy,e5,g5,e6,g6]
theorem dc_neg {p : Prop} (h : ¬ p) : dc p = false:=by rw [dc_no];exact h
theorem entryOk_n {e : Entry} (hl : nEntry e≤2 ^ 40) : nL nPart e.o≤2 ^ 40:=by unfold nEntry at hl;omega
theorem implEntryOk_c (e : Entry) (hl : nEntry e≤2 ^ 40) : PureC Try.prog 49 [.agg e.row] (.one (.c (vb (entryOk e)) 1)):=by
 refine PureC.intro' tt_ok Try.func49 (by kernel_rfl) rfl rfl rfl (Nat.le_of_ble_eq_true rfl) (fun w0 base=>?_);simp [Entry.row];intros;refine ACall.pure (within_c e.client 1 8) (by simp) ?_;by_cases c1 : 1≤e.client∧e.client≤8
 rotate_left
 ·have h : ¬ entryOk e:=fun h=>c1 h.1
  simp [dc_neg c1,dc_neg h]
 simp [c1];refine ACall.pure (within_c e.seq 1 1000000000) (by simp) ?_;by_cases c2 : 1≤e.seq∧e.seq≤1000000000
 rotate_left
 ·have h : ¬ entryOk e:=fun h=>c2 h.2.1
  simp [dc_neg c2,dc_neg h]
 simp [c2];refine ACall.pure (implIsNorm_c e.o (entryOk_n hl)) (by simp) ?_;by_cases c3 : isNorm e.o
 ·have h : entryOk e:=⟨c1,c2,c3⟩
  simp [c3,h]
 ·have h : ¬ entryOk e:=fun h=>c3 h.2.2
  simp [dc_neg c3,dc_neg h]
theorem fTransform_n (a b : List Part) : nL nPart (fTransform a b).1≤2 ^ 18∧nL nPart (fTransform a b).2.1≤2 ^ 18:=by
 unfold fTransform
 split
 ·split
  ·rename_i h;exact ⟨opOk_n h.1,opOk_n h.2⟩
  ·simp [nL,sumN]
 ·simp [nL,sumN]
noncomputable def ackRep (r : Rep) (t : List Int) : Rep:=⟨r.client,r.seq,r.rev + 1,t,false,keeping t.length,r.buf⟩
def moveRep (r : Rep) (t : List Int) (s b : List Part) : Rep:=⟨r.client,r.seq,r.rev + 1,t,r.has,s,b⟩
def isAck (r : Rep) (e : Entry) : Prop:=r.has = true∧e.client = r.client∧e.seq = r.seq
open Classical in
noncomputable def fRepTake (r : Rep) (e : Entry) : Rep × Bool:=
 if repOk r∧entryOk e∧fits3 e.o r.text then
  if isAck r e then (if e.o = r.sent then repOr (ackRep r (apply e.o r.text).1) else (Rep.zero,false))
  else if (fTransform e.o r.sent).2.2 = true∧(fTransform (fTransform e.o r.sent).1 r.buf).2.2 = true then repOr (moveRep r (apply e.o r.text).1 (fTransform e.o r.sent).2.1 (fTransform (fTransform e.o r.sent).1 r.buf).2.1) else (Rep.zero,false)
 else (Rep.zero,false)
theorem fRepTake_no {r : Rep} {e : Entry} (h : ¬ (repOk r∧entryOk e∧fits3 e.o r.text)) : fRepTake r e = (Rep.zero,false):=by unfold fRepTake;rw [if_neg h]
theorem fRepTake_ack {r : Rep} {e : Entry} (h : repOk r∧entryOk e∧fits3 e.o r.text) (h2 : isAck r e) : (e.o = r.sent→fRepTake r e = repOr (ackRep r (apply e.o r.text).1))∧(¬ e.o = r.sent→fRepTake r e = (Rep.zero,false)):=by
 unfold fRepTake;rw [if_pos h,if_pos h2];exact ⟨fun h=>by rw [if_pos h],fun h=>by rw [if_neg h]⟩
theorem fRepTake_move {r : Rep} {e : Entry} (h : repOk r∧entryOk e∧fits3 e.o r.text) (h2 : ¬ isAck r e) :
 ((fTransform e.o r.sent).2.2 = true ∧ (fTransform (fTransform e.o r.sent).1 r.buf).2.2 = true → fRepTake r e = repOr (moveRep r (apply e.o r.text).1 (fTransform e.o r.sent).2.1 (fTransform (fTransform e.o r.sent).1 r.buf).2.1)) ∧
 (¬ ((fTransform e.o r.sent).2.2 = true∧(fTransform (fTransform e.o r.sent).1 r.buf).2.2 = true)→fRepTake r e = (Rep.zero,false)):=by
 unfold fRepTake;rw [if_pos h,if_neg h2];exact ⟨fun h=>by rw [if_pos h],fun h=>by rw [if_neg h]⟩
theorem ackRep_n {r : Rep} {t : List Int} (h : t.length≤2 ^ 17) : nRep (ackRep r t)≤nRep r + 2 ^ 18:=by
 have:=keeping_n t.length;unfold nRep ackRep;simp only;omega
theorem moveRep_n {r : Rep} {t : List Int} {s b : List Part} (h : t.length≤2 ^ 17) (hs : nL nPart s≤2 ^ 18) (hb : nL nPart b≤2 ^ 18) : nRep (moveRep r t s b)≤2 ^ 20:=by
 unfold nRep moveRep;simp only;omega
theorem implRepTake_i (r : Rep) (hl : nRep r≤2 ^ 28) (x : Entry) (hx : nEntry x≤2 ^ 40) : PureC Try.prog 20 [.agg r.row,.agg x.row] (.tup [.agg (fRepTake r x).1.res,.c (.v (.bool (fRepTake r x).2)) 1]):=by
 refine PureC.intro' tt_ok Try.func20 (by kernel_rfl) rfl rfl rfl (Nat.le_of_ble_eq_true rfl) (fun w0 base=>?_);have hxo:=entryOk_n hx;have hbuf : nL nPart r.buf≤2 ^ 40∧nL nPart r.sent≤2 ^ 40∧r.text.length≤2 ^ 40:=by unfold nRep at hl;omega
 obtain ⟨hbuf,hsent,htext⟩:=hbuf;simp [Rep.row,Entry.row];intros;refine ACall.pure (implRepOk_i r (by omega)) (by simp [Rep.row]) ?_;by_cases c1 : repOk r
 rotate_left
 ·have e:=fRepTake_no (r:=r) (e:=x) (fun h=>c1 h.1)
  simp [dc_neg c1,e,Rep.res,Rep.zero]
 simp [c1];refine ACall.pure (implEntryOk_c x hx) (by simp [Entry.row]) ?_;by_cases c2 : entryOk x
 rotate_left
 ·have e:=fRepTake_no (r:=r) (e:=x) (fun h=>c2 h.2.1)
  simp [dc_neg c2,e,Rep.res,Rep.zero]
 simp [c2];refine ACall.pure (implApply_c x.o r.text hxo htext) (by simp) ?_;have hyes:=@apply_yes x.o r.text;have hno:=fRepTake_no (r:=r) (e:=x);have hack:=fRepTake_ack (r:=r) (e:=x);have hmove:=fRepTake_move (r:=r) (e:=x);have ht:=apply_len x.o r.text;generalize apply x.o r.text = A at hyes hack hmove ht ⊢;obtain ⟨t,ok⟩:=A;simp only at hyes hack hmove ht ⊢;simp;intro H1
 cases ok with
 | false=>
   have e:=hno (fun h=>by have:=hyes.2 h.2.2;simp at this);simp [e,Rep.res,Rep.zero]
 | true=>
   have hall : repOk r∧entryOk x∧fits3 x.o r.text:=⟨c1,c2,hyes.1 rfl⟩;have hrev:=c1.2.2.1;have ew : Go.IntKind.i64.wrap (r.rev + 1) = r.rev + 1:=Go.IntWalk.i64_in _ (by omega);simp;refine ACall.pure (copyRep_c r (by omega)) (by simp [Rep.row]) ?_;simp [Rep.res,ew];intros
   have hcase : isAck r x∨r.has = false∨(r.has = true∧x.client≠r.client)∨(r.has = true∧x.client = r.client∧x.seq≠r.seq):=by
    by_cases h1 : r.has = true
    ·by_cases h2 : x.client = r.client
     ·by_cases h3 : x.seq = r.seq
      ·exact .inl ⟨h1,h2,h3⟩
      ·exact .inr (.inr (.inr ⟨h1,h2,h3⟩))
     ·exact .inr (.inr (.inl ⟨h1,h2⟩))
    ·exact .inr (.inl (by simpa using h1))
   rcases hcase with hA | hA | hA | hA
   ·have hm:=hack hall hA
    simp [hA.1,hA.2.1,hA.2.2];refine ACall.pure (implOpSame_c x.o r.sent hxo) (by simp) ?_;by_cases ce : x.o = r.sent
    rotate_left
    ·have e:=hm.2 ce
     simp [ce,e,Rep.zero]
    have e:=hm.1 ce;simp [ce];refine ACall.pure (implKeeping_c t.length) (by simp) ?_;simp;intros;refine ACall.inline tt_ok Try.func33 (by kernel_rfl) rfl rfl rfl (Nat.le_of_ble_eq_true rfl) 20000 (fun w1 F=>?_);simp;intros;have hn2:=@ackRep_n r t ht;refine ACall.pure (implRepOk_i (ackRep r t) (by omega)) (by simp [Rep.row,ackRep]) ?_;by_cases h : repOk (ackRep r t)
    ·rw [repOr_yes h] at e
     simp [h,e];simp [ackRep]
    ·rw [repOr_no h] at e
     simp [dc_neg h,e,Rep.zero]
   all_goals
    have hnA : ¬ isAck r x:=by
     rintro ⟨a1,a2,a3⟩
     simp_all
    have hm:=hmove hall hnA;have n1:=fTransform_n x.o r.sent;simp [hA];refine ACall.pure (implTransform_i x.o r.sent hxo hsent) (by simp) ?_;generalize fTransform x.o r.sent = T1 at hm n1 ⊢;obtain ⟨x1,s1,j1⟩:=T1;simp only at hm n1 ⊢;simp;intros;have n2:=fTransform_n x1 r.buf;refine ACall.pure (implTransform_i x1 r.buf (by omega) hbuf) (by simp) ?_;generalize fTransform x1 r.buf = T2 at hm n2 ⊢;obtain ⟨x2,s2,j2⟩:=T2;simp only at hm n2 ⊢;simp;intros
    cases j1 with
    | false=>
      have e:=hm.2 (by simp);simp [e,Rep.zero]
    | true=>
      cases j2 with
      | false=>
        have e:=hm.2 (by simp);simp [e,Rep.zero]
      | true=>
        have e:=hm.1 ⟨rfl,rfl⟩;simp;refine ACall.inline tt_ok Try.func33 (by kernel_rfl) rfl rfl rfl (Nat.le_of_ble_eq_true rfl) 20000 (fun w1 F=>?_);simp;intros;have hn2:=@moveRep_n r t s1 s2 ht n1.2 n2.2;refine ACall.pure (implRepOk_i (moveRep r t s1 s2) (by omega)) (by simp [Rep.row,moveRep,hA]) ?_;by_cases h : repOk (moveRep r t s1 s2)
        ·rw [repOr_yes h] at e
         simp [h,e];simp [moveRep,hA]
        ·rw [repOr_no h] at e
         simp [dc_neg h,e,Rep.zero]
end Go.Proofs.Ytoldjebobgocpaa
namespace Go.AM
open Go.RowKit
structure Placed (w w' : World) (ob : Option Nat) (nb no nC n sz : Nat) (us : List Value) : Prop where
 at_ : ∃ cs T,w'.heap[nb]? = some (.cells cs T (0,0))∧no + nC * sz≤cs.size∧∀ j,j < n * sz→cs.getD (no + j) undef = us.getD j undef
 le : n≤nC
 cap : nC≤maxLen
 size : w.heap.size≤w'.heap.size
 same : Same w w'
 blk : w.heap.size≤nb∨ob = some nb
 frame : ∀ c,c < w.heap.size→c≠nb→w'.heap[c]? = w.heap[c]?
theorem Rep.place {w0 : World} {base : Bs} {st : ASt} {a : Act} {w w' : World} (hR : Rep w0 base st a w) {h' : AH} {E' : Nat→Nat→Prop} (H' : HRel base h' w E') (tr : Tr st.h.M w h'.M w) {k : Nat} {ob : Option Nat} (hob : (h'.get k).blk = ob)
 {nb no nC sz : Nat} {us : List Value} {rows : List (List CD)} (own : Bool) (hp : Placed w w' ob nb no nC rows.length sz us) (hsz : 0 < sz) (hrl : ∀ row∈rows,row.length = sz) (F : Nat→Nat→Nat→Prop)
 (hr : ∀ i j row d,rows[i]? = some row→row[j]? = some d→Rd w own (F i j) (us.getD (i * sz + j) undef) d) (hF : ∀ i j c,F i j c→¬ h'.M c)
 (hown : own = true→∀ i j c,F i j c→¬ base.G c∧∀ q,q≠k→¬ E' q c) (hinj : own = true→∀ i j i' j' c,F i j c→F i' j' c→i = i'∧j = j') :
 Moved w0 base st a w ((k,.rows (some (nb,no,nC)) sz rows own) :: h') w':=by
 obtain ⟨cs,T,hb,hfit,hcs⟩:=hp.at_
 have hnb : ∀ c,c < w.heap.size→c = nb→(h'.get k).blk = some c:=by
  intro c hc e;subst e;rcases hp.blk with h | h
  ·omega
  ·rw [hob];exact h
 have hfr : ∀ c,c < w.heap.size→(¬ h'.M c∨∃ j,j≠k∧(h'.get j).blk = some c)→w'.heap[c]? = w.heap[c]?:=by
  intro c hc h;refine hp.frame c hc (fun e=>?_);have hk:=hnb c hc e;rcases h with h | ⟨j,hne,hj⟩
  ·exact h ⟨k,hk⟩
  ·exact hne (H'.inj _ _ _ hj hk)
 have t : Tr h'.M w (AH.M ((k,.rows (some (nb,no,nC)) sz rows own) :: h')) w':=Tr.upd H' hp.size (fun c hc hM=>hfr c hc (.inl hM)) (fun c hc=>by
  simp [AObj.blk] at hc;subst hc;rcases hp.blk with h | h
  ·exact .inl h
  ·exact .inr (by rw [hob];exact h))
 have lt : ∀ i j,i < rows.length→j < sz→i * sz + j < rows.length * sz:=by
  intro i j hi hj;have:=Nat.mul_le_mul_right sz (show i + 1≤rows.length by omega);have e : (i + 1) * sz = i * sz + sz:=Nat.succ_mul i sz;omega
 refine (hR.move H' tr ⟨rfl,rfl,rfl⟩).move (H'.upd (Ek:=fun c=>own = true∧c < w.heap.size∧∃ i j,F i j c) hp.size hfr (fun c hc=>?_)
  ⟨cs,T,fun i j c=>c < w.heap.size∧F i j c,hb,hp.le,hp.cap,hsz,hfit,hrl,?_,?_,?_⟩ ?_) t hp.same
 ·simp [AObj.blk] at hc
  subst hc;rcases hp.blk with h | h
  ·exact ⟨hR.newer h,.inl h⟩
  ·have hk : (h'.get k).blk = some nb:=by rw [hob];exact h
   exact ⟨H'.low k _ hk,.inr hk⟩
 ·rintro i j c ⟨hlt,hc⟩
  exact ⟨fun ho=>⟨ho,hlt,i,j,hc⟩,fun hM=>hF i j c hc (t.mono c hlt hM)⟩
 ·rintro ho i j i' j' c ⟨-,hc⟩ ⟨-,hc'⟩
  exact hinj ho i j i' j' c hc hc'
 ·intro i j row d hi hj
  have h1 : i < rows.length:=(List.getElem?_eq_some_iff.1 hi).1;have h2 : j < sz:=by rw [← hrl _ (List.mem_of_getElem? hi)];exact (List.getElem?_eq_some_iff.1 hj).1
  rw [hcs _ (lt i j h1 h2)];exact (hr i j row d hi hj).map (fun c hc hl=>hfr c hl (.inl (hF i j c hc))) (fun c hc hl=>⟨hl,hc⟩)
 ·rintro c ⟨ho,hlt,i,j,hc⟩
  obtain ⟨h1,h2⟩:=hown ho i j c hc;exact ⟨h1,Nat.lt_of_lt_of_le hlt hp.size,h2,fun hM=>hF i j c hc (t.mono c hlt hM)⟩
end Go.AM
namespace Go.Proofs.Ytoldjebobgocpaa
open Go.AM Go.RowKit
set_option maxRecDepth 100000
set_option maxHeartbeats 4000000
set_option linter.unusedVariables false
set_option linter.unusedSimpArgs false
open Go.AM
set_option maxRecDepth 20000
set_option maxHeartbeats 3200000
theorem keeping_fit {n : Int} (h0 : 0≤n) (h1 : n≤200) : isNorm (keeping n)∧opFrom (keeping n) = n∧opTo (keeping n) = n∧idle (keeping n):=by
 by_cases hz : 1≤n
 ·have e : keeping n = [⟨1,n,[]⟩]:=by unfold keeping;rw [if_pos ⟨hz,h1⟩]
  have hp : partsOk (keeping n):=by rw [e];exact ⟨by intro p hp;simp at hp;subst hp;exact .inl ⟨.inl rfl,⟨h0,h1⟩,rfl⟩,by simp⟩
  have hs : l02Sum (keeping n) = (n,0,0):=by unfold l02Sum;rw [if_pos hp,e];simp [sumI,fK,fP,fD]
  have hf : opFrom (keeping n) = n:=by unfold opFrom;rw [hs];simp
  have ht : opTo (keeping n) = n:=by unfold opTo;rw [hs];simp
  have ho : opOk (keeping n):=⟨hp,by omega,by omega⟩;refine ⟨⟨ho,?_⟩,hf,ht,ho,?_,?_⟩
  ·unfold opNorm;rw [if_pos ho,e]
   have : 0 < n:=by omega
   simp [normal,nbRun,nbStep,nbKeep,nbFlush,this]
  ·unfold puts;rw [if_pos ho,e];simp [sumI,fP]
  ·unfold drops;rw [if_pos ho,e];simp [sumI,fD]
 ·have e : keeping n = []:=by unfold keeping;rw [if_neg (fun h=>hz h.1)]
  have hp : partsOk (keeping n):=by rw [e];exact ⟨by simp,by simp⟩
  have hs : l02Sum (keeping n) = (0,0,0):=by unfold l02Sum;rw [if_pos hp,e];simp [sumI]
  have hf : opFrom (keeping n) = 0:=by unfold opFrom;rw [hs];simp
  have ht : opTo (keeping n) = 0:=by unfold opTo;rw [hs];simp
  have ho : opOk (keeping n):=⟨hp,by omega,by omega⟩;refine ⟨⟨ho,?_⟩,by omega,by omega,ho,?_,?_⟩
  ·unfold opNorm;rw [if_pos ho,e]
   simp [normal,nbRun,nbFlush]
  ·unfold puts;rw [if_pos ho,e];simp [sumI]
  ·unfold drops;rw [if_pos ho,e];simp [sumI]
open Classical in
noncomputable def fRepText (r : Rep) : List Int:=if repOk r then (applyAll [r.sent,r.buf] r.text).1 else []
theorem implRepText_i (r : Rep) (hl : nRep r≤2 ^ 30) : PureC Try.prog 7 [.agg r.row] (.one (.c (.s ((fRepText r).map intR)) 1)):=by
 refine PureC.intro' tt_ok Try.func7 (by kernel_rfl) rfl rfl rfl (Nat.le_of_ble_eq_true rfl) (fun w0 base=>?_);simp [Rep.row];intros;refine ACall.pure (implRepOk_i r (by omega)) (by simp [Rep.row]) ?_;by_cases c1 : repOk r
 rotate_left
 ·have e : fRepText r = []:=by unfold fRepText;rw [if_neg c1]
  have e2 : dc (repOk r) = false:=by rw [dc_no];exact c1
  simp [e2,e]
 have e : fRepText r = (applyAll [r.sent,r.buf] r.text).1:=by unfold fRepText;rw [if_pos c1]
 unfold nRep at hl;simp [c1];intro b;refine ACall.pure (implApplyAll_c [r.sent,r.buf] r.text (by simp) (by simp;omega) (by omega)) (by simp) ?_;simp [e]
end Go.Proofs.Ytoldjebobgocpaa
