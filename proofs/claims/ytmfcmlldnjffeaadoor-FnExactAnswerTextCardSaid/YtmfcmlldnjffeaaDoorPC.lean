import Derived.Test.YtmfcmlldnjffeaaDoorPA
import Derived.Test.YtmfcmlldnjffeaaDoorPB
import Derived.Lib.AtoiAllCases
import Derived.Lib.AppendIntMem
import Derived.WalkKit
import Derived.BigCall
import Derived.Test.YtmfcmlldnjffeaaDoorMF
import Derived.Lib.AtoiErrMem
import Derived.Lib.ConvBytes
import Derived.Lib.Hide
import Derived.LaidMore
import Derived.Lay
import Derived.HandedShaped
import Derived.Stop.LaidErr
import Derived.MakeChecks
import Derived.SevenTiedAt
import Derived.Lib.LaidTab
import Derived.Shelf.Vars
namespace Go.Proofs.YtmfcmlldnjffeaaDoor
open Go.AM
set_option maxRecDepth 20000
def chn (L:List Part):Prop:=∀ i,∀ h:i+1<L.length,L[i].kind≠L[i+1].kind
theorem nt:chn []:=λi h=>by simp at h
theorem qP {p:Part} {L:List Part} (h:chn (p::L)):chn L/\∀ h0:0<L.length,p.kind≠L[0].kind:=by
 refine ⟨λi hi=>?_,λh0=>?_⟩
 ·have:=h (i+1) (by simp;omega)
  simpa using this
 ·have:=h 0 (by simp;omega)
  simpa using this
theorem dT {L:List Part} {p:Part} (h:chn L) (hp:∀ h:0<L.length,(L[L.length - 1]'(by omega)).kind≠p.kind):chn (L++[p]):=by
 intro i hi;simp at hi;by_cases c:i+1<L.length
 ·rw [List.getElem_append_left (by omega),List.getElem_append_left c];exact h i c
 ·have h0:0<L.length:=by omega
  have:=hp h0;rw [List.getElem_append_left (by omega),List.getElem_append_right (by omega)];have e:i=L.length - 1:=by omega
  subst e
  simpa using this
theorem sO {L:List Part} {i:Nat} {p:Part} (h:chn L) (hi:i<L.length) (hk:p.kind=L[i].kind):chn (L.set i p):=by
 intro j hj;simp at hj;have h1:=h j hj;rw [List.getElem_set,List.getElem_set]
 split
 ·rename_i e;subst e
  rw [if_neg (by omega),hk];exact h1
 ·split
  ·rename_i e;subst e;rw [hk];exact h1
  ·exact h1
def p7 (L:List Part):Prop:=∀ h:0<L.length,(L[L.length - 1]'(by omega)).kind=1
theorem gP {L:List Part} {p:Part}:(((L++[p])[(L++[p]).length - 1]'(by simp))).kind=p.kind:=by simp
theorem jd {L:List Part} {P:List Int} {D:Int} (h:chn L) (hl:p7 L):chn (ai L P D):=by
 unfold ai
 split
 ·split
  ·rw [List.nil_append]
   exact dT h λh0=>by rw [hl h0];simp
  ·simpa using h
 ·have h1:chn (L++[⟨2,0,P⟩]):=dT h λh0=>by rw [hl h0];simp
  split
  ·rw [<- List.append_assoc]
   exact dT h1 λh0=>by rw [gP];simp
  ·simpa using h1
theorem qa {L:List Part} {n:Int} (h:chn L):chn (aQ L n)/\p7 (aQ L n):=by
 unfold aQ
 split
 ·rename_i h0
  split
  ·rename_i hk
   refine ⟨sO h (by omega) hk.symm,λh1=>?_⟩;simp
  ·rename_i hk
   refine ⟨dT h λ_=>hk,λh1=>?_⟩;rw [gP]
 ·exact ⟨dT (L:=[]) nt (λh=>by simp at h),λ_=>rfl⟩
theorem i7 (o:List Part):∀ (i:Nat),i<=o.length->chn (ap (o.take i)).1/\p7 (ap (o.take i)).1
 | 0, _ => by
   simp only [ap,List.take_zero,List.foldl_nil];exact ⟨nt,λh=>by simp at h⟩
 | i + 1, hi => by
   obtain ⟨h1,h2⟩:=i7 o i (by omega);rw [ch (show i<o.length by omega)];generalize ap (o.take i)=s at h1 h2;unfold bx
   split
   ·exact ⟨h1,h2⟩
   ·split
    ·exact ⟨h1,h2⟩
    ·split
     ·exact qa (jd h1 h2)
     ·exact ⟨h1,h2⟩
theorem l1 (o:List Part):chn (normal o):=by
 obtain ⟨h1,h2⟩:=i7 o o.length (Nat.le_refl _);rw [List.take_length] at h1 h2;exact jd h1 h2
def iA:At->List Part->List Part
 | .k,[]=>[⟨1,1,[]⟩]
 | .k,p::l=>if p.kind=1 then ⟨1,p.n+1,[]⟩::l else ⟨1,1,[]⟩::p::l
 | .d,[]=>[⟨3,1,[]⟩]
 | .d,p::l=>if p.kind=3 then ⟨3,p.n+1,[]⟩::l else ⟨3,1,[]⟩::p::l
 | .p c,[]=>[⟨2,0,[c]⟩]
 | .p c,p::l=>if p.kind=2 then ⟨2,0,c::p.signs⟩::l else ⟨2,0,[c]⟩::p::l
def grp (l:List At):List Part:=l.foldr iA []
theorem qq {L:List Part} (h:∀ h0:0<L.length,L[0].kind≠1):∀ n:Nat,(List.replicate (n+1) At.k).foldr iA L=⟨1,(n:Int)+1,[]⟩::L
 | 0 => by
   cases L with
   |nil=>rfl
   |cons p l=>have:=h (by simp);simp at this;simp [iA,this]
 | n + 1 => by
   rw [List.replicate_succ,List.foldr_cons,qq h n];simp [iA]
theorem qr {L:List Part} (h:∀ h0:0<L.length,L[0].kind≠3):∀ n:Nat,(List.replicate (n+1) At.d).foldr iA L=⟨3,(n:Int)+1,[]⟩::L
 | 0 => by
   cases L with
   |nil=>rfl
   |cons p l=>have:=h (by simp);simp at this;simp [iA,this]
 | n + 1 => by
   rw [List.replicate_succ,List.foldr_cons,qr h n];simp [iA]
theorem qp {L:List Part} (h:∀ h0:0<L.length,L[0].kind≠2):∀ (Q:List Int) (c:Int),((c::Q).map At.p).foldr iA L=⟨2,0,c::Q⟩::L
 | [], c => by
   cases L with
   |nil=>rfl
   |cons p l=>have:=h (by simp);simp at this;simp [iA,this]
 | d :: Q, c => by
   rw [List.map_cons,List.foldr_cons,qp h Q d];simp [iA]
theorem jc:∀ {L:List Part},(∀ q∈L,Shp q)->chn L->grp (az L)=L
 | [],_,_=>rfl
 | p :: L, hs, hc => by
   obtain ⟨h1,h2⟩:=qP hc;have ih:=jc (λq hq=>hs q (List.mem_cons_of_mem _ hq)) h1;have hp:=hs p (List.mem_cons_self ..);unfold grp at ih ⊢;rw [az,List.foldr_append,ih];have hpos:=hp.pos;have hn:=hp.n;unfold ats;obtain ⟨kd,n,sg⟩:=p;by_cases k2:kd=2
   ·subst k2
    obtain ⟨e1,-⟩:=hp.put rfl;simp only at e1;subst e1;simp only [if_true]
    cases sg with
    |nil=>simp [psz] at hpos
    |cons c Q=>exact qp (λh0=>by have:=h2 h0;simpa using this.symm) Q c
   ·have e1:=hp.run k2
    simp only at e1 hn;subst e1;have hz:psz ⟨kd,n,[]⟩=n.toNat:=by simp [psz]
    rw [hz] at hpos;obtain ⟨m,hm⟩:∃ m,n.toNat=m+1:=⟨n.toNat - 1,by omega⟩;have hnm:n=(m:Int)+1:=by omega
    rw [hz,hm,if_neg k2];by_cases k3:kd=3
    ·subst k3
     simp only [if_true];rw [qr (λh0=>by have:=h2 h0;simpa using this.symm),hnm]
    ·have k1:kd=1:=by rcases hp.k with h|h|h<;>simp only at h<;>omega
     subst k1;rw [if_neg (by simp),qq (λh0=>by have:=h2 h0;simpa using this.symm),hnm]
theorem na:∀ (l:List At) (P:List Int) (n:Nat),nA [] 0 (nA P n l)=nA P n l
 | [], P, n => by
   have h2:=nd n P 0 [];rw [List.append_nil,Nat.zero_add] at h2;rw [nA,m9,List.nil_append,h2,nA]
 | .k :: l, P, n => by
   rw [nA,m9,nd,List.nil_append,Nat.zero_add,nA,na l]
 | .p c::l,P,n=>by rw [nA,na l]
 | .d::l,P,n=>by rw [nA,na l]
theorem gJ {o:List Part} (h:∀ p∈o,am p):normal o=grp (eH (az o)):=by
 rw [<- d7 h,jc (er h) (l1 o)]
theorem iv {o:List Part} (h:cg o):normal (normal o)=normal o:=by
 have h2:=(iZ h).1;rw [gJ h2.1.1,d7 h.1.1,gJ h.1.1];unfold eH;rw [na]
theorem iy {o:List Part} (h:cg o):ma (normal o):=by
 have h2:=(iZ h).1;refine ⟨h2,?_⟩;unfold aP;rw [if_pos h2,iv h]
theorem bK {o:List Part} (h:cg o):ma (aP o):=by
 have e:aP o=normal o:=by unfold aP;rw [if_pos h]
 rw [e];exact iy h
theorem mq:∀ (k m:Nat),m<10 ^ (k+1)->(Lib.decDigits m).length<=k+1:=by
 intro k
 induction k with
 |zero=>intro m h;rw [gv (by omega)];simp
 | succ k ih =>
   intro m h;by_cases h9:m<10
   ·rw [gv h9];simp
   ·rw [gW h9]
    have:=ih (m / 10) (by rw [Nat.pow_succ] at h;omega);simp;omega
def cO (l:List Int):List UInt8:=Lib.join (l.map ah) [46]
open Classical in
noncomputable def ao (l:List Int):List UInt8:=if bg l then (if l=[] then [45] else cO l) else []
def ae (p:Part):List UInt8:=if p.kind=1 then 107::ah p.n else if p.kind=2 then 112::cO p.signs else 100::ah p.n
open Classical in
noncomputable def be (o:List Part):List UInt8:=if cg o then (if aP o=[] then [45] else Lib.join ((aP o).map ae) [32]) else []
theorem kL {o:List Part} (h:ma o):∀ p∈o,Shp p/\p.n<=200:=by
 have e:aP o=normal o:=by unfold aP;rw [if_pos h.1]
 intro p hp;have h1:=h.1.1.1 p hp;refine ⟨?_,h1.bounds.2.2.1⟩;rw [<- h.2,e] at hp;exact er h.1.1.1 p hp
theorem mU {p:Part} (h:Shp p) (h2:p.kind=2):p.signs≠[]:=λe=>by
 have:=h.pos;have h0:=(h.put h2).1;unfold psz at this;simp [e,h0] at this
theorem dk {l:List Int} (h:bg l) (hl:l≠[]):ao l=cO l:=by unfold ao;rw [if_pos h,if_neg hl]
theorem rV (p:Part):ae p≠[]:=by unfold ae;(repeat' split)<;>simp
open Go.AM Go.RowKit
def rm (_:World):Prop:=True
def LT (w:World):Prop:=
 Lib.TabIs Tryd.prog w "internal/strconv.uint64pow10" .u64 Lib.pow10Tab ∧ (∃ m, w.cell? ⟨1, 0, none⟩ = some (.int .i64 m)) ∧ rm w
theorem oy {w w':World} (h:BelowF (λc=>c<w.heap.size) w w') {a:Addr} {v:Value} (hc:w.cell? a=some v):w'.cell? a=some v:=by
 unfold World.cell? at hc ⊢
 cases hb:w.heap[a.block]? with
 |none=>rw [hb] at hc;cases hc
 |some o=>rw [h.block _ (bj hb),hb];rw [hb] at hc;exact hc
theorem o8 {P:Program} {w w':World} (h:BelowF (λc=>c<w.heap.size) w w') {n:String} {cs:Array Value} (hc:w.var? P n=some cs):w'.var? P n=some cs:=by
 unfold World.var? at hc ⊢
 cases hg:P.globalNamed n with
 |none=>rw [hg] at hc;cases hc
 | some g =>
   rw [hg] at hc;simp only [Option.bind_some] at hc ⊢
   cases hb:w.heap[g]? with
   |none=>rw [hb] at hc;cases hc
   |some o=>rw [h.block _ (bj hb),hb];rw [hb] at hc;exact hc
theorem rm.stay:LSt rm:=λ_ _ _ _=>trivial
theorem LT.stay:LSt LT:=λw w' h ⟨h1,⟨m,h2⟩,h3⟩=>⟨o8 h h1,⟨m,oy h h2⟩,rm.stay w w' h h3⟩
theorem yI {xs:Array Value} (h:xs.size=1):∃ a,xs = #[a]:=by
 obtain ⟨l⟩:=xs
 match l,h with
 | [a],_=>exact ⟨a,rfl⟩
theorem AZ {xs:Array Value} (h:xs.size=2):∃ a b,xs = #[a,b]:=by
 obtain ⟨l⟩:=xs
 match l,h with
 | [a,b],_=>exact ⟨a,b,rfl⟩
theorem AY {xs:Array Value} (h:xs.size=3):∃ a b c,xs = #[a,b,c]:=by
 obtain ⟨l⟩:=xs
 match l,h with
 | [a,b,c],_=>exact ⟨a,b,c,rfl⟩
theorem pC {w:World} {v u:Value} (h:RdV w v (.c (.v u))):v=u:=by cases h;rfl
theorem kX (c:UInt8):∀ (a b:List UInt8),c ∉ a->Lib.index (a++c::b) [c]=(a.length:Int)
 | [],b,_=>by simp [Lib.index,List.isPrefixOf]
 | x :: a, b, h => by
   have hx:c≠x:=λe=>h (by simp [e])
   have ih:=kX c a b (λe=>h (by simp [e]));have hp:([c]:List UInt8).isPrefixOf (x::(a++c::b))=false:=by simp [List.isPrefixOf,hx]
   rw [List.cons_append,Lib.index,hp,ih];have hn:¬ (((a.length:Int) == -1)=true):=by rw [beq_iff_eq];omega
   simp only [Bool.false_eq_true,if_false,if_neg hn,List.length_cons];omega
theorem qF (c:UInt8) (l:List UInt8) (h:c∈l):∃ a b,l=a++c::b/\c ∉ a:=by
 induction l with
 |nil=>simp at h
 | cons x l ih =>
   by_cases hx:x=c
   ·exact ⟨[],l,by simp [hx],by simp⟩
   ·obtain ⟨a,b,h1,h2⟩:=ih (by rcases List.mem_cons.1 h with h|h;exact absurd h.symm hx;exact h)
    exact ⟨x::a,b,by simp [h1],λe=>by rcases List.mem_cons.1 e with e|e;exact hx e.symm;exact h2 e⟩
theorem jB (c d:UInt8):∀ (n:Nat) (l:List UInt8),l.length<=n->Lib.replaceK [c] [d] (Lib.count l [c]) l=l.map λx=>if x=c then d else x:=by
 intro n
 induction n with
 | zero =>
   intro l hl;have:l=[]:=List.length_eq_zero_iff.1 (by omega);subst this;rw [Lib.count_one];rfl
 | succ n ih =>
   intro l hl
   have hno:∀ a:List UInt8,c ∉ a->(a.map λx=>if x=c then d else x)=a:=λa ha=>by
    conv=>rhs;rw [<- List.map_id a]
    exact List.map_congr_left λx hx=>by rw [if_neg (λe=>ha (by rw [<- e];exact hx))];rfl
   by_cases hc:c∈l
   ·obtain ⟨a,b,rfl,ha⟩:=qF c l hc
    have hi:=kX c a b ha;have hd:(a++c::b).drop (a.length+1)=b:=by simp
    rw [Lib.count_hit (by simp) hi,Nat.add_comm,Lib.replaceK_hit _ _ _ _ _ hi];simp at hl;simp only [List.length_singleton,hd,ih b (by omega),List.map_append,List.map_cons,hno a ha];simp
   ·have h0:Lib.count l [c]=0:=by rw [Lib.count_one];exact List.count_eq_zero.2 hc
    rw [h0,hno l hc];rfl
theorem kD (s:List UInt8) (c d:UInt8) (h:c≠d):Lib.replaceAll s [c] [d]=s.map λx=>if x=c then d else x:=by
 unfold Lib.replaceAll Lib.replace;have hn:¬ (([c]:List UInt8) == [d])=true:=by rw [beq_iff_eq];simpa using h
 rw [if_neg hn];exact jB c d s.length s (Nat.le_refl _)
theorem vn (n:Int) (h0:0<=n) (h1:n<=9223372036854775807):aN Tryd.prog LT 47 [.c (vi n)] (.one (.c (vs (Lib.itoa n)) 1)):=by
 refine ⟨⟨_,Tryd.func47,by kernel_rfl,by kernel_rfl⟩,λw hL xs hxs hargs=>?_⟩;obtain ⟨a,rfl⟩:=yI hxs;obtain rfl:=pC (hargs 0 _ rfl);refine (Any.strconv_Itoa iJ n (by omega) h1 w hL.1).mono ?_
 rintro e w' ⟨rfl,k,os,rfl⟩
 exact ⟨_,rfl,Lib.below_grow _ _ (Nat.le_refl _) k os,rfl,rfl⟩
theorem nO (s:List UInt8) (c d:UInt8) (hcd:c≠d) (hl:s.length<=2 ^ 31):aN Tryd.prog LT 48 [.c (vs s),.c (vs [c]),.c (vs [d])] (.one (.c (vs (s.map λx=>if x=c then d else x)) 1)):=by
 refine ⟨⟨_,Tryd.func48,by kernel_rfl,by kernel_rfl⟩,λw hL xs hxs hargs=>?_⟩;obtain ⟨a,b,f,rfl⟩:=AY hxs;obtain rfl:=pC (hargs 0 _ rfl);obtain rfl:=pC (hargs 1 _ rfl);obtain rfl:=pC (hargs 2 _ rfl);obtain ⟨m,hm⟩:=hL.2.1;have hc:=Lib.countB_le (bs [c]) (by rw [bq];simp) (bs s).size (bs s) (Nat.le_refl _);refine (Any.strings_ReplaceAll kq dx (bs s) (bs [c]) (bs [d]) m w (by rw [bq];omega) hm (by rw [bq];simp) (by rw [bq] at hc ⊢;rw [bq];simp;omega)).mono ?_
 rintro e w' ⟨rfl,hb⟩
 refine ⟨_,rfl,hb,?_,rfl⟩;simp only [gw,kD s c d hcd];rfl
theorem qb (l:List (List UInt8)) (c:UInt8) (hl:l.length<=2 ^ 40) (hj:(Lib.join l [c]).length<=140737488355328):aN Tryd.prog LT 64 [.c (.s (l.map wR)),.c (vs [c])] (.one (.c (vs (Lib.join l [c])) 1)):=by
 refine ⟨⟨_,Tryd.func64,by kernel_rfl,by kernel_rfl⟩,λw hL xs hxs hargs=>?_⟩;obtain ⟨a,b,rfl⟩:=AZ hxs;have h0:Rd w false (λ_=>True) a (.s (l.map wR)):=hargs 0 _ rfl;obtain rfl:=pC (hargs 1 _ rfl);by_cases hn:l=[]
 ·subst hn
  obtain ⟨x,y,rfl⟩:=h0.empty_slice;refine (Any.strings_Join_none e7 ca x y (bs [c]) w).mono ?_
  rintro e w' ⟨rfl,rfl⟩
  exact ⟨_,rfl,Below.refl _ _,rfl,rfl⟩
 generalize hr:l.map wR=rows at h0
 cases h0 with
 |empty a cap h=>exact absurd (List.map_eq_nil_iff.1 hr) hn
 | slice b off cap sz cs T fr rows F hcap hmax hsz hS hb hfit hown hF hd hlen hrd =>
   subst hr
   have hsz1:sz=1:=by
    cases l with
    |nil=>exact absurd rfl hn
    |cons x l=>have:=hlen (wR x) (by simp);rw [dI] at this;exact this.symm
   subst hsz1
   have hcells:∀ (j:Nat) x,(l.map bs)[j]? = some x->w.cell? ⟨b,off+j,none⟩=some (.string x):=λj x hj=>by
    rw [List.getElem?_map] at hj
    cases hx:l[j]? with
    |none=>rw [hx] at hj;cases hj
    | some y =>
      rw [hx] at hj
      cases hj
      have h1:=hrd j 0 (wR y) (vs y) (by rw [List.getElem?_map,hx];rfl) rfl;have hjl:j<l.length:=(List.getElem?_eq_some_iff.1 hx).1;simp only [List.length_map] at hfit;have h2:off+(j*1+0)<cs.size:=by omega
      have e3:off+(j*1+0)=off+j:=by omega
      rw [e3] at h1 h2;unfold World.cell?;rw [hb];generalize hv:cs.getD (off+j) undef=v at h1
      cases h1
      rw [Array.getD_eq_getD_getElem?,Array.getElem?_eq_getElem h2] at hv;simp at hv;simp [h2,hv]
   have hd2:(l.map bs).map (·.data.toList)=l:=by
    rw [List.map_map]
    conv=>rhs;rw [<- List.map_id l]
    exact List.map_congr_left λx _=>gw x
   have:=Any.strings_Join e7 ca b off cap (l.map bs) (bs [c]) w hcells (bj hb) (by rw [List.length_map];omega) (by rw [List.length_map] at hcap ⊢;exact hcap) (by rw [hd2,gw];exact hj);rw [hd2,gw] at this;simp only [List.length_map] at this ⊢;refine this.mono ?_
   rintro e w' ⟨rfl,hB⟩
   exact ⟨_,rfl,hB,rfl,rfl⟩
set_option maxRecDepth 100000
set_option maxHeartbeats 4000000
theorem bo (n:Int):aN Tryd.prog LT 25 [.c (vi n)] (.one (.c (vs (ah n)) 1)):=by
 refine aN.intro' ak LT.stay Tryd.func25 (by kernel_rfl) rfl rfl rfl (Nat.le_of_ble_eq_true rfl) (λw0 base hE=>?_);simp;refine ab.pure (c8 n 0 1000000000) (by simp) ?_;by_cases h:0<=n/\n<=1000000000
 ·have e:Lib.itoa n=ah n:=by unfold Lib.itoa ah;rw [if_neg (by omega),if_pos h]
  simp [h];refine ar hE (vn n (by omega) (by omega)) (by simp) ?_;simp [e]
 ·have e:ah n=[]:=by unfold ah;rw [if_neg h]
  simp [h,e];rfl
theorem LT.below {w w':World} (h:Below w.heap.size w w') (hL:LT w):LT w':=LT.stay w w' ⟨h.os,h.tape,h.output,h.size,h.block⟩ hL
set_option maxRecDepth 20000
set_option maxHeartbeats 6400000
attribute [local simp] fW dV bq dU dI
theorem si {l:List (List UInt8)} {B:Nat} (h:∀ w∈l,w.length<=B):Lib.lens l<=B*l.length:=by
 induction l with
 |nil=>simp [Lib.lens]
 | cons x l ih =>
   have h1:=h x (by simp);have h2:=ih λw hw=>h w (by simp [hw])
   have e:Lib.lens (x::l)=x.length+Lib.lens l:=by simp [Lib.lens]
   rw [e,List.length_cons,Nat.mul_succ];omega
theorem jI {l:List (List UInt8)} {B:Nat} {c:UInt8} (h:∀ w∈l,w.length<=B):(Lib.join l [c]).length<=(B+1)*l.length:=by
 cases l with
 |nil=>simp [Lib.join_nil]
 | cons x l =>
   rw [Lib.join_length];have:=si h;rw [Nat.add_mul];simp at this ⊢;omega
theorem aA (n:Int):(ah n).length<=10:=by
 unfold ah
 split
 ·exact mq 9 _ (by omega)
 ·simp
theorem c9 (l:List Int):(cO l).length<=11*l.length:=by
 have h:=jI (l:=l.map ah) (B:=10) (c:=46) (λw hw=>by obtain ⟨n,-,rfl⟩:=List.mem_map.1 hw;exact aA n)
 simpa [cO] using h
theorem eQ (l:List Int) (hl:l.length<=2 ^ 40):aN Tryd.prog LT 59 [.c (.s (l.map aS))] (.one (.c (vs (cO l)) 1)):=by
 refine aN.intro' ak LT.stay Tryd.func59 (by kernel_rfl) rfl rfl rfl (Nat.le_of_ble_eq_true rfl) (λw0 base hE=>?_);simp;refine aR hE (λx:Nat×Hd=>x.1<=l.length) (λx=>⟨20,0,[(8,.v (.int .i64 x.1)),(7,.v (.int .i64 l.length)),(6,.ro (l.map aS)),(3,.sl 5000 x.2 1 0 x.1)],[(5000,.rows x.2 1 (((l.take x.1).map ah).map wR) true)]⟩) (λx=>l.length - x.1) (0,none) (by simp) (by simp) (λx hx=>Ent.refl ?_);obtain ⟨i,H⟩:=x;simp only at hx ⊢;by_cases hlt:i<l.length
 ·simp [hlt]
  refine ar hE (bo l[i]) (by simp) ?_;simp;intro b;have e1:i=min i l.length:=by omega
  refine ⟨e1,by omega,λH2=>Ent.refl ⟨i+1,by omega,by omega,H2,?_⟩⟩;simp;exact ⟨aq (by omega),d5 (f:=wR ∘ ah) hlt⟩
 ·have e:i=l.length:=by omega
  subst e;simp;refine ar hE (qb (l.map ah) 46 (by simpa using hl) (by have:=c9 l;unfold cO at this;omega)) (by simp) ?_;simp [cO]
theorem gR (l:List Int) (hl:l.length<=2 ^ 40):aN Tryd.prog LT 41 [.c (.s (l.map aS))] (.one (.c (vs (ao l)) 1)):=by
 refine aN.intro' ak LT.stay Tryd.func41 (by kernel_rfl) rfl rfl rfl (Nat.le_of_ble_eq_true rfl) (λw0 base hE=>?_);simp;refine ab.pure (eh l hl) (by simp) ?_;by_cases h:bg l
 ·by_cases h0:l=[]
  ·have e:ao l=[45]:=by unfold ao;rw [if_pos h,if_pos h0]
   have h0':(l.length:Int)=0:=by rw [h0];rfl
   simp [h,h0',e]
  ·have e:ao l=cO l:=dk h h0
   have h0':¬ (l.length:Int)=0:=by have:=List.length_pos_iff.2 h0;omega
   simp [h,h0,e];refine ar hE (eQ l hl) (by simp) ?_;simp
 ·have e:ao l=[]:=by unfold ao;rw [if_neg h]
  simp [h,e]
theorem m7 {p:Part} (h:am p):(ae p).length<=2201:=by
 have hb:=h.bounds;have h1:=aA p.n;have h2:=c9 p.signs;unfold ae
 split
 ·simp;omega
 ·split<;>simp<;>omega
theorem da (o:List Part):(be o).length<=2500000:=by
 unfold be
 split
 ·rename_i h
  split
  ·simp
  ·have h1:=(bK h).1
   have h2:=jI (l:=(aP o).map ae) (B:=2201) (c:=32) (λw hw=>by obtain ⟨p,hp,rfl⟩:=List.mem_map.1 hw;exact m7 (h1.1.1 p hp));have h3:=h1.1.2;simp at h2;omega
 ·simp
end Go.Proofs.YtmfcmlldnjffeaaDoor
namespace Go.AM
open Go.RowKit
mutual
def fz (k:Nat) (H:Hd) (sz:Nat) (rs:List (List CD)):AV->AV
 | .sl k' H' sz' off len=>if k'=k then (if H'=H/\sz'=sz/\off+len<=rs.length then .ro (cut rs off len) else .any) else .sl k' H' sz' off len
 | .agg l=>.agg (fzL k H sz rs l)
 | .tup l=>.tup (fzL k H sz rs l)
 | .clo f l=>.clo f (fzL k H sz rs l)
 | .any=>.any
 | .un=>.un
 | .nil=>.nil
 | .v u=>.v u
 | .ro r=>.ro r
 | .p a b c=>.p a b c
 | .e a b c d e=>.e a b c d e
 | .rp r=>.rp r
 | .cv u n=>.cv u n
 | .ml a b c d=>.ml a b c d
 | .is u=>.is u
def fzL (k:Nat) (H:Hd) (sz:Nat) (rs:List (List CD)):List AV->List AV
 | []=>[]
 |a::l=>fz k H sz rs a::fzL k H sz rs l
end
def fzO (k:Nat) (H:Hd) (sz:Nat) (rs:List (List CD)):AObj->AObj
 | .vars b T cells=>.vars b T (fzL k H sz rs cells)
 |o=>o
def fzT (k:Nat) (H:Hd) (sz:Nat) (rs:List (List CD)) (t:List (Nat×AV)):List (Nat×AV):=t.map λp=>(p.1,fz k H sz rs p.2)
def fzH (k:Nat) (H:Hd) (sz:Nat) (rs:List (List CD)):AH->AH
 | []=>[]
 |(i,o)::h=>(i,fzO k H sz rs o)::fzH k H sz rs h
section rules
variable {k:Nat} {H:Hd} {sz:Nat} {rs:List (List CD)}
theorem sC:fzT k H sz rs []=[]:=(rfl)
theorem qs {i:Nat} {v:AV} {t:List (Nat×AV)}:fzT k H sz rs ((i,v)::t)=(i,fz k H sz rs v)::fzT k H sz rs t:=(rfl)
theorem qx {i:Nat} {o:AObj} {h:AH}:fzH k H sz rs ((i,o)::h)=(i,fzO k H sz rs o)::fzH k H sz rs h:=(rfl)
theorem sF:fzH k H sz rs []=[]:=(rfl)
theorem ld:∀ (W:bp) (i:Nat),fzH k H sz rs (bL i W)=bL i W
 | [],i=>rfl
 | q :: l, i => by
   have e:∀ xs:List Value,fzL k H sz rs (xs.map .is)=xs.map .is:=by
    intro xs
    induction xs with
    |nil=>rfl
    |cons x xs ih=>simp [fzL,fz,ih]
   simp [bL,fzH,phO,fzO,e,ld l]
theorem sE {W:bp}:fzH k H sz rs (phs W)=phs W:=ld W _
theorem qt {b:Nat} {T:TypeId} {l:List AV}:fzO k H sz rs (.vars b T l)=.vars b T (fzL k H sz rs l):=(rfl)
theorem qu {H':Hd} {sz':Nat} {r:List (List CD)} {own:Bool}:fzO k H sz rs (.rows H' sz' r own)=.rows H' sz' r own:=(rfl)
theorem qv:fzO k H sz rs .dead=.dead:=(rfl)
theorem sD:fzL k H sz rs []=[]:=by simp [fzL]
theorem qw {a:AV} {l:List AV}:fzL k H sz rs (a::l)=fz k H sz rs a::fzL k H sz rs l:=by rw [fzL]
theorem AQ {u:Value}:fz k H sz rs (.v u)=.v u:=by rw [fz]
theorem vB:fz k H sz rs .any=.any:=by rw [fz]
theorem yt:fz k H sz rs .un=.un:=by rw [fz]
theorem vz:fz k H sz rs .nil=.nil:=by rw [fz]
theorem yw {r:List (List CD)}:fz k H sz rs (.ro r)=.ro r:=by rw [fz]
theorem yv {r:List CD}:fz k H sz rs (.rp r)=.rp r:=by rw [fz]
theorem yy {u:Value} {n:Nat}:fz k H sz rs (.cv u n)=.cv u n:=by rw [fz]
theorem yx {a c d:Nat} {b:Hd}:fz k H sz rs (.ml a b c d)=.ml a b c d:=by rw [fz]
theorem AR {a b c:Nat}:fz k H sz rs (.p a b c)=.p a b c:=by rw [fz]
theorem AS {a c d e:Nat} {b:Hd}:fz k H sz rs (.e a b c d e)=.e a b c d e:=by rw [fz]
theorem vC {l:List AV}:fz k H sz rs (.agg l)=.agg (fzL k H sz rs l):=by rw [fz]
theorem vy {l:List AV}:fz k H sz rs (.tup l)=.tup (fzL k H sz rs l):=by rw [fz]
theorem vA {f:Nat} {l:List AV}:fz k H sz rs (.clo f l)=.clo f (fzL k H sz rs l):=by rw [fz]
theorem yu {k' sz' off len:Nat} {H':Hd}:fz k H sz rs (.sl k' H' sz' off len)=if k'=k then (if H'=H/\sz'=sz/\off+len<=rs.length then .ro (cut rs off len) else .any) else .sl k' H' sz' off len:=by rw [fz]
end rules
attribute [simp] sC qs qx sF sE qt qu qv sD qw AQ vB yt vz yw yv yy yx AR AS vC vy vA yu
open Go.RowKit
theorem aO.ent {E:Env} {body:Code} {Q:Exit->ASt->Prop} {st:ASt} (h:Ent E st (aO E body Q)):aO E body Q st:=λa w hR=>by
 obtain ⟨st',h1,h2⟩:=h a w hR;exact h1 a w h2
end Go.AM
namespace Go.Proofs.YtmfcmlldnjffeaaDoor
open Go.AM
set_option maxRecDepth 20000
set_option maxHeartbeats 6400000
attribute [local simp] fW dV bq dU dI
theorem fH {o:List Part} (h:cg o) (h0:aP o=[]):be o=[45]:=by unfold be;rw [if_pos h,if_pos h0]
theorem fI {o:List Part} (h:cg o) (h0:aP o≠[]):be o=Lib.join ((aP o).map ae) [32]:=by unfold be;rw [if_pos h,if_neg h0]
theorem jS (o:List Part) (hl:nL ay o<=2 ^ 40):aN Tryd.prog LT 49 [.c (.s (o.map Part.row))] (.one (.c (vs (be o)) 1)):=by
 refine aN.intro' ak LT.stay Tryd.func49 (by kernel_rfl) rfl rfl rfl (Nat.le_of_ble_eq_true rfl) (λw0 base hE=>?_);simp;refine ab.pure (gS o hl) (by simp) ?_;by_cases h:cg o
 rotate_left
 ·have e:be o=[]:=by unfold be;rw [if_neg h]
  simp [h,e]
 simp [h];refine ab.pure (jT o hl) (by simp) ?_;obtain ⟨h1,h2⟩:=bK h;have hz:=fH h;have hs:=fI h;have hle:=da o;generalize be o=T at hz hs hle ⊢;have hsh:=kL (bK h);generalize aP o=q at h1 hz hs hsh ⊢;have hlen:=h1.1.2;simp;intro H;refine aO.ent (lK 10 160 (by simp;exact ⟨rfl,rfl,rfl,rfl⟩) (by simp;exact ⟨rfl,rfl⟩) (by simp) (Ent.refl ?_));simp
 refine aR hE (λx:Nat×Hd=>x.1<=q.length) (λx=>⟨49,0,[(12,.v (.int .i64 x.1)),(11,.v (.int .i64 q.length)),(10,.ro (q.map Part.row)),(3,.sl 5000 x.2 1 0 x.1)],
  [(5000,.rows x.2 1 (((q.take x.1).map ae).map wR) true)]⟩) (λx=>q.length - x.1) (0,none) (by simp) (by simp) (λx hx=>Ent.refl ?_)
 obtain ⟨i,K⟩:=x;simp only at hx ⊢;by_cases hlt:i<q.length
 rotate_left
 ·have e:i=q.length:=by omega
  subst e;by_cases h0:q=[]
  ·subst h0
   simp [hz rfl]
  ·simp [h0]
   refine ar hE (qb (q.map ae) 32 (by simp;omega) (by rw [<- hs h0];omega)) (by simp) ?_;simp [hs h0]
 have hpt:=hsh q[i] (List.getElem_mem hlt);have hok:=h1.1.1 q[i] (List.getElem_mem hlt);obtain ⟨⟨k,n,s⟩,hp⟩:∃ p,q[i]=p:=⟨_,rfl⟩;have hps:ae q[i]=ae ⟨k,n,s⟩:=by rw [hp]
 rw [hp] at hpt hok;have hb:=hok.bounds;simp only at hb;simp [hlt,hp,Part.row];intro b5;have e1:i=min i q.length:=by omega
 have h10:=aA n;by_cases k1:k=1
 ·have hT:ae q[i]=107::ah n:=by rw [hps,k1];simp [ae]
  simp [k1];refine ar hE (bo n) (by simp) ?_;simp;refine ⟨by omega,λb=>⟨e1,by omega,λH2=>Ent.refl ⟨i+1,by omega,by omega,H2,?_⟩⟩⟩;simp;exact ⟨aq (by omega),by rw [<- hT];exact d5 (f:=wR ∘ ae) hlt⟩
 by_cases k3:k=3
 ·have hT:ae q[i]=100::ah n:=by rw [hps,k3];simp [ae]
  simp [k3];refine ar hE (bo n) (by simp) ?_;simp;refine ⟨by omega,λb=>⟨e1,by omega,λH2=>Ent.refl ⟨i+1,by omega,by omega,H2,?_⟩⟩⟩;simp;exact ⟨aq (by omega),by rw [<- hT];exact d5 (f:=wR ∘ ae) hlt⟩
 have k2:k=2:=by omega
 have hT:ae q[i]=112::cO s:=by rw [hps,k2];simp [ae]
 have hsl:=c9 s;simp [k2];refine ar hE (eQ s (by omega)) (by simp) ?_;simp;refine ⟨by omega,λb=>⟨e1,by omega,λH2=>Ent.refl ⟨i+1,by omega,by omega,H2,?_⟩⟩⟩;simp;exact ⟨aq (by omega),by rw [<- hT];exact d5 (f:=wR ∘ ae) hlt⟩
def fj (s:List UInt8):List UInt8:=s.map λx=>if x=32 then 44 else x
theorem jR (o:List Part) (hl:nL ay o<=2 ^ 40):aN Tryd.prog LT 26 [.c (.s (o.map Part.row))] (.one (.c (vs (fj (be o))) 1)):=by
 refine aN.intro' ak LT.stay Tryd.func26 (by kernel_rfl) rfl rfl rfl (Nat.le_of_ble_eq_true rfl) (λw0 base hE=>?_);have hle:=da o;simp;refine ar hE (jS o hl) (by simp) ?_;simp;refine ar hE (nO (be o) 32 44 (by decide) (by omega)) (by simp) ?_;simp [fj]
end Go.Proofs.YtmfcmlldnjffeaaDoor
namespace Go.Proofs.YtmfcmlldnjffeaaDoor
open Go.AM
set_option maxRecDepth 20000
set_option maxHeartbeats 6400000
attribute [local simp] fW dV bq dU dI
theorem fm {α:Type} {l:List α} {i:Nat} (h:i<l.length) (f:α->List UInt8) (c:UInt8) :
 Lib.join ((l.map f).take (i+1)) [c]=if i=0 then f l[i] else Lib.join ((l.map f).take i) [c]++c::f l[i]:=by
 have h':i<(l.map f).length:=by simpa using h
 rw [List.take_succ_eq_append_getElem h',of,List.getElem_map];by_cases h0:i=0
 ·subst h0;simp
 ·rw [if_neg h0,if_neg]
  intro e;have:=congrArg List.length e;rw [List.length_take,Nat.min_eq_left (by omega)] at this;exact h0 this
theorem eO {α:Type} {l:List α} {i:Nat} (f:α->List UInt8) (c:UInt8) {B:Nat} (h:∀ a∈l,(f a).length<=B):(Lib.join ((l.map f).take i) [c]).length<=(B+1)*l.length:=by
 have h1:=jI (l:=(l.map f).take i) (B:=B) (c:=c) (λw hw=>by
  obtain ⟨a,ha,rfl⟩:=List.mem_map.1 (List.mem_of_mem_take hw);exact h a ha)
 have h2:((l.map f).take i).length<=l.length:=by simp;omega
 exact Nat.le_trans h1 (Nat.mul_le_mul_left _ h2)
theorem cD (l:List Int) (hl:l.length<=2 ^ 40):ag Tryd.prog 37 [.c (.s (l.map aS))] (.one (.c (vs (ao l)) 1)):=by
 refine pci ak Tryd.func37 (λw0 base=>?_);simp;refine ab.pure (ef l hl) (by simp) ?_;by_cases h:bg l
 rotate_left
 ·have e:ao l=[]:=by unfold ao;rw [if_neg h]
  simp [h,e]
 by_cases h0:l=[]
 ·have e:ao l=[45]:=by unfold ao;rw [if_pos h,if_pos h0]
  subst h0;simp [h,e]
 have e:ao l=cO l:=dk h h0;have hj:∀ i,(Lib.join ((l.map ah).take i) [46]).length<=11*l.length:=λi=>eO ah 46 (λn _=>aA n)
 simp [h,h0,e];refine aR eok (λi:Nat=>i<=l.length) (λi=>⟨29,0,[(14,.v (.int .i64 i)),(13,.v (.int .i64 l.length)),(12,.ro (l.map aS)),(3,.v (.string (bs (Lib.join ((l.map ah).take i) [46]))))],[]⟩) (λi=>l.length - i) 0 (by simp) (by simp [Lib.join_nil]) (λi hi=>Ent.refl ?_);by_cases hlt:i<l.length
 rotate_left
 ·have e:i=l.length:=by omega
  have ht:(l.map ah).take l.length=l.map ah:=List.take_of_length_le (by simp);subst e;simp [cO,ht]
 have hn:=fm hlt ah 46;have hji:=hj i;have hni:=aA l[i];by_cases hi0:i=0
 ·subst hi0
  simp [hlt];refine ab.pure (aG l[0]) (by simp) ?_;simp [Lib.join_nil];refine ⟨by omega,Ent.refl ⟨1,by omega,by omega,?_⟩⟩;rw [if_pos rfl] at hn;simp [hn];rfl
 ·have hi1:0<i:=by omega
  rw [if_neg hi0] at hn;generalize Lib.join ((l.map ah).take i) [46]=S at hn hji ⊢;simp [hlt,hi1];refine ⟨by omega,?_⟩;refine ab.pure (aG l[i]) (by simp) ?_;simp;refine ⟨by omega,Ent.refl ⟨i+1,by omega,by omega,?_⟩⟩;simp [hn];exact aq (by omega)
theorem jx (o:List Part) (hl:nL ay o<=2 ^ 40):ag Tryd.prog 45 [.c (.s (o.map Part.row))] (.one (.c (vs (be o)) 1)):=by
 refine pci ak Tryd.func45 (λw0 base=>?_);simp;refine ab.pure (gF o hl) (by simp) ?_;by_cases h:cg o
 rotate_left
 ·have e:be o=[]:=by unfold be;rw [if_neg h]
  simp [h,e]
 simp [h];refine ab.pure (jy o hl) (by simp) ?_;obtain ⟨h1,h2⟩:=bK h;have hz:=fH h;have hs:=fI h;have hle:=da o;generalize be o=T at hz hs hle ⊢;have hsh:=kL (bK h);generalize aP o=q at h1 hz hs hsh ⊢;have hlen:=h1.1.2;simp;intro H;refine aO.ent (lK 10 160 (by simp;exact ⟨rfl,rfl,rfl,rfl⟩) (by simp;exact ⟨rfl,rfl⟩) (by simp) (Ent.refl ?_));simp;have hj:∀ i,(Lib.join ((q.map ae).take i) [32]).length<=2202*q.length:=λi=>eO ae 32 (λp hp=>m7 (h1.1.1 p hp))
 refine aR eok (λi:Nat=>i<=q.length) (λi=>⟨48,0,[(12,.v (.int .i64 i)),(11,.v (.int .i64 q.length)),(10,.ro (q.map Part.row)),(3,.v (.string (bs (Lib.join ((q.map ae).take i) [32]))))],[]⟩) (λi=>q.length - i) 0 (by simp) (by simp [Lib.join_nil]) (λi hx=>Ent.refl ?_)
 have hne:∀ i,0<i->i<=q.length->Lib.join ((q.map ae).take i) [32]≠[]:=λi hi hq=>by
  obtain ⟨j,rfl⟩:∃ j,i=j+1:=⟨i - 1,by omega⟩;rw [fm (show j<q.length by omega) ae 32]
  split
  ·exact rV _
  ·simp
 have hji:=hj i;by_cases hlt:i<q.length
 rotate_left
 ·have e:i=q.length:=by omega
  subst e;by_cases h0:q=[]
  ·subst h0
   simp [hz rfl,Lib.join_nil]
  ·have hn:=hne q.length (List.length_pos_iff.2 h0) (Nat.le_refl _)
   have ht:(q.map ae).take q.length=q.map ae:=List.take_of_length_le (by simp);rw [ht] at hn;simp [ht,hn,hs h0]
 have hpt:=hsh q[i] (List.getElem_mem hlt);have hok:=h1.1.1 q[i] (List.getElem_mem hlt);have hn:=fm hlt ae 32;obtain ⟨⟨k,n,s⟩,hp⟩:∃ p,q[i]=p:=⟨_,rfl⟩;rw [hp] at hpt hok hn;have hb:=hok.bounds;simp only at hb;have h10:=aA n;by_cases hi0:i=0
 ·subst hi0
  rw [if_pos rfl] at hn;simp [hlt,hp,Part.row,Lib.join_nil];intro b5;by_cases k1:k=1
  ·have hT:ae ⟨k,n,s⟩=107::ah n:=by rw [k1];simp [ae]
   rw [hT] at hn;simp [k1];refine ab.pure (aG n) (by simp) ?_;simp;refine ⟨by omega,Ent.refl ⟨1,by omega,by omega,?_⟩⟩;simp [hn];rfl
  have k23:k=2\/k=3:=by omega
  rcases k23 with k2|k3
  ·have hT:ae ⟨k,n,s⟩=112::cO s:=by rw [k2];simp [ae]
   rw [hT] at hn;have hso:=(hpt.1.put k2).2;have hsn:=mU hpt.1 k2;have hsl:=c9 s;simp only at hso hsn;simp [k2];refine ab.pure (cD s (by omega)) (by simp) ?_;rw [dk hso hsn];simp;refine ⟨by omega,Ent.refl ⟨1,by omega,by omega,?_⟩⟩;simp [hn];rfl
  ·have hT:ae ⟨k,n,s⟩=100::ah n:=by rw [k3];simp [ae]
   rw [hT] at hn;simp [k3];refine ab.pure (aG n) (by simp) ?_;simp;refine ⟨by omega,Ent.refl ⟨1,by omega,by omega,?_⟩⟩;simp [hn];rfl
 ·have hn0:=hne i (by omega) hx
  rw [if_neg hi0] at hn;generalize Lib.join ((q.map ae).take i) [32]=S at hn hji hn0 ⊢;simp [hlt,hp,Part.row,hn0];intro b5;refine ⟨by omega,?_⟩;by_cases k1:k=1
  ·have hT:ae ⟨k,n,s⟩=107::ah n:=by rw [k1];simp [ae]
   rw [hT] at hn;simp [k1];refine ⟨by omega,?_⟩;refine ab.pure (aG n) (by simp) ?_;simp;refine ⟨by omega,Ent.refl ⟨i+1,by omega,by omega,?_⟩⟩;simp [hn];exact aq (by omega)
  have k23:k=2\/k=3:=by omega
  rcases k23 with k2|k3
  ·have hT:ae ⟨k,n,s⟩=112::cO s:=by rw [k2];simp [ae]
   rw [hT] at hn;have hso:=(hpt.1.put k2).2;have hsn:=mU hpt.1 k2;have hsl:=c9 s;simp only at hso hsn;simp [k2];refine ⟨by omega,?_⟩;refine ab.pure (cD s (by omega)) (by simp) ?_;rw [dk hso hsn];simp;refine ⟨by omega,Ent.refl ⟨i+1,by omega,by omega,?_⟩⟩;simp [hn];exact aq (by omega)
  ·have hT:ae ⟨k,n,s⟩=100::ah n:=by rw [k3];simp [ae]
   rw [hT] at hn;simp [k3];refine ⟨by omega,?_⟩;refine ab.pure (aG n) (by simp) ?_;simp;refine ⟨by omega,Ent.refl ⟨i+1,by omega,by omega,?_⟩⟩;simp [hn];exact aq (by omega)
end Go.Proofs.YtmfcmlldnjffeaaDoor
namespace Go.Proofs.YtmfcmlldnjffeaaDoor
open Go.AM
set_option maxRecDepth 20000
set_option maxHeartbeats 6400000
attribute [local simp] fW dV bq dU dI
noncomputable def cj (e:Entry):List UInt8:=ah e.client++58::(ah e.seq++58::fj (be e.o))
theorem fi (o:List Part):(fj (be o)).length<=2500000:=by have:=da o;simpa [fj] using this
theorem gj (e:Entry) (hl:aB e<=2 ^ 40):aN Tryd.prog LT 9 [.agg e.row] (.one (.c (vs (cj e)) 1)):=by
 refine aN.intro' ak LT.stay Tryd.func9 (by kernel_rfl) rfl rfl rfl (Nat.le_of_ble_eq_true rfl) (λw0 base hE=>?_);have h1:=aA e.client;have h2:=aA e.seq;have h3:=fi e.o;simp [Entry.row];intro b;refine au.quiet hE mix (by kernel_rfl) ?_;simp;refine ⟨_,_,bo e.client,by simp,?_⟩;simp;refine ⟨by omega,_,_,bo e.seq,by simp,?_⟩;simp;refine ⟨by omega,by omega,_,_,jR e.o hl,by simp,?_⟩;simp;refine ⟨by omega,?_⟩;simp [cj]
end Go.Proofs.YtmfcmlldnjffeaaDoor
namespace Go.Proofs.YtmfcmlldnjffeaaDoor
open Go.AM Go.RowKit
set_option maxRecDepth 100000
set_option maxHeartbeats 4000000
def br (w0:World) (b:Nat) (l:List UInt8) (W:World):Prop:=
 Below w0.heap.size w0 W/\w0.heap.size<=b/\∃ cs:Array Value,W.heap[b]? = some (.cells cs 5 (cs.size,cs.size+1))/\∀ (j:Nat) (h:j<l.length),cs[j]? = some (.int .u8 l[j].toNat)
theorem br.cell {w0:World} {b:Nat} {l:List UInt8} {W:World} (h:br w0 b l W) {j:Nat} (hj:j<l.length):W.cell? ⟨b,j,none⟩=some (.int .u8 l[j].toNat):=by
 obtain ⟨-,-,cs,hb,hc⟩:=h;unfold World.cell?;rw [hb];exact hc j hj
theorem br.soft {w0:World} {b:Nat} {l:List UInt8} {W:World} (h:br w0 b l W) {j:Nat} (hj:j<l.length):W.frozen? ⟨b,j,none⟩=false:=by
 obtain ⟨-,-,cs,hb,hc⟩:=h;have:=(Array.getElem?_eq_some_iff.1 (hc j hj)).1;unfold World.frozen?;rw [hb];simp;omega
theorem br.set {w0:World} {b:Nat} {l:List UInt8} {W:World} (h:br w0 b l W) {j:Nat} (hj:j<l.length) (x:UInt8):br w0 b (l.set j x) (W.setCell ⟨b,j,none⟩ (.int .u8 x.toNat)):=by
 obtain ⟨h1,h2,cs,hb,hc⟩:=h;have hlt:=bj hb;refine ⟨h1.trans ⟨rfl,rfl,rfl,by simp [World.setCell],λk hk=>?_⟩,h2,cs.setIfInBounds j (.int .u8 x.toNat),?_,λi hi=>?_⟩
 ·have:b≠k:=by have:=h1.size;omega
  simp [World.setCell,Array.getElem?_modify,this]
 ·simp [World.setCell,Array.getElem?_modify,hb]
 ·rw [List.length_set] at hi
  rw [Array.getElem?_setIfInBounds];by_cases e:j=i
  ·subst e
   have:=(Array.getElem?_eq_some_iff.1 (hc j hj)).1;simp [this]
  ·rw [if_neg e,hc i hi,List.getElem_set_ne e]
theorem lL {w0 w1:World} (h:Below w0.heap.size w0 w1) (l:List UInt8):br w0 w1.heap.size l (Lib.bytesWorld w1 5 (bs l)):=by
 refine ⟨h.trans ((Lib.bytesWorld_below w1 _ _).mono h.size),h.size,_,Lib.bytesWorld_at_new w1 _ _,λj hj=>?_⟩;unfold Lib.bytesCells;rw [Array.getElem?_append_left (by simpa [bs] using hj)];simp [bs,hj]
theorem br.text {w0:World} {b:Nat} {l:List UInt8} {W:World} (h:br w0 b l W) (hl:l.length<=2 ^ 40) (c:Nat) {s d e:TypeId} (hs:Tryd.prog.underlying s=some (.slice e)) (he:Tryd.prog.underlying e=some (.int .u8)) (hd:Tryd.prog.underlying d=some .string) :
 (convert s d (.slice (some ⟨b,0,none⟩) l.length c)).run Tryd.prog W=.ok (.string (bs l)) W:=by
 rw [run_convert_bytes_string W s d e _ _ _ hs he hd];obtain ⟨-,-,cs,hb,hc⟩:=h
 have hr:Rd W false (λ_=>True) (.slice (some ⟨b,0,none⟩) (l.map aJ).length (l.map aJ).length) (.s (l.map aJ)):=by
  refine .slice b 0 _ 1 cs _ _ _ (λ_ _ _=>False) (Nat.le_refl _) (by rw [List.length_map];unfold maxLen;omega) (by omega) trivial hb ?_ (λh=>by cases h) (λ_ _ _ h=>h.elim) (λh=>by cases h) (by simp [aJ]) ?_
  ·cases hn:l.length with
   |zero=>simp [hn]
   | succ n =>
     have:=(Array.getElem?_eq_some_iff.1 (hc n (by omega))).1;simp [hn];omega
  ·intro i j row x hi hj
   rw [List.getElem?_map] at hi
   cases hx:l[i]? with
   |none=>rw [hx] at hi;cases hi
   | some y =>
     rw [hx] at hi
     cases hi
     obtain ⟨hil,rfl⟩:=List.getElem?_eq_some_iff.1 hx
     match j,hj with
     | 0, hj =>
       cases hj
       have h1:=hc i hil;have e3:0+(i*1+0)=i:=by omega
       rw [e3,Array.getD_eq_getD_getElem?,h1];exact .plain rfl
 have:=(hI (P:=Tryd.prog) hr).1;rw [List.length_map] at this;exact this
def dm (f:UInt8->UInt8) (l:List UInt8) (k:Nat):List UInt8:=(l.take k).map f++l.drop k
theorem gO (f:UInt8->UInt8) (l:List UInt8) (k:Nat):(dm f l k).length=l.length:=by simp [dm];omega
theorem nX (f:UInt8->UInt8) (l:List UInt8):dm f l 0=l:=by simp [dm]
theorem pZ (f:UInt8->UInt8) (l:List UInt8):dm f l l.length=l.map f:=by simp [dm]
theorem nf (f:UInt8->UInt8) {l:List UInt8} {k:Nat} (h:k<l.length) (h':k<(dm f l k).length):(dm f l k)[k]'h'=l[k]:=by
 have hA:((l.take k).map f).length=k:=by simp;omega
 have e:(dm f l k)[k]? = l[k]?:=by
  unfold dm;rw [List.getElem?_append_right (by omega),hA,Nat.sub_self,List.getElem?_drop,Nat.add_zero]
 rw [List.getElem?_eq_getElem h',List.getElem?_eq_getElem h] at e;exact Option.some.inj e
theorem kP (f:UInt8->UInt8) {l:List UInt8} {k:Nat} (h:k<l.length):(dm f l k).set k (f l[k])=dm f l (k+1):=by
 have hA:((l.take k).map f).length=k:=by simp;omega
 unfold dm;rw [List.set_append_right _ _ (by omega),hA,Nat.sub_self,List.drop_eq_getElem_cons h,List.set_cons_zero,List.take_succ_eq_append_getElem h,List.map_append,List.append_assoc];rfl
theorem nY (f:UInt8->UInt8) {l:List UInt8} {k:Nat} (h:k<l.length) (e:f l[k]=l[k]):dm f l (k+1)=dm f l k:=by
 rw [<- kP f h,e];have h':k<(dm f l k).length:=by rw [gO];exact h
 have e2:=List.set_getElem_self h'
 rwa [nf f h] at e2
def cK (x:UInt8):UInt8:=if x=32 then 44 else x
theorem so (o:Value) (l:List UInt8) (w:World) (hl:l.length<=2 ^ 40)
 (A:Calls Tryd.prog 45 #[o] w λe w'=>e=.returned (.string (bs l))/\Below w.heap.size w w') :
 Calls Tryd.prog 23 #[o] w λe w'=>e=.returned (.string (bs (l.map cK)))/\Below w.heap.size w w':=by
 have mixed:Tryd.prog.follows .mixedOrders=true:=by kernel_rfl
 go_enter Tryd.func23,Tryd.ntmps23
 go_wp2_with (go_at_call 45;refine A.mono ?_;rintro e w1 ⟨rfl,h1⟩)
 have hcv:=Lib.run_convert_string_bytes (P:=Tryd.prog) w1 9 71 5 (bs l) (u:=.string) Tryd.underlying9 Tryd.underlying71 Tryd.underlying5;have hB0:Hid (br w w1.heap.size (dm cK l 0) (Lib.bytesWorld w1 5 (bs l))):=by rw [nX];exact lL h1 l
 rw [bq] at hcv;generalize Lib.bytesWorld w1 5 (bs l)=w2 at hcv hB0;generalize grownCap w1 l.length 0 5=C at hcv;generalize w1.heap.size=b at hcv hB0
 clear h1 A
 obtain ⟨n,hn⟩:∃ n,n=l.length:=⟨_,rfl⟩;rw [<- hn] at hcv;have HN:=Lib.hid hn
 clear hn
 rw [hcv]
 clear hcv
 go_wp2
 have hnl:n<=l.length:=by have:=HN.out;omega
 have hnl2:l.length<=n:=by have:=HN.out;omega
 go_loopw [11] (λvi wr=>∃ k:Nat,vi=.int .i64 k/\k<=n/\Hid (br w b (dm cK l k) wr)) (λvi _=>n - (intOf vi).toNat)
 case atStart=>exact ⟨0,rfl,Nat.zero_le _,hB0⟩
 case round=>
  obtain ⟨k,rfl,hk,hb⟩:=hrel
  clear hB0
  by_cases hkn:k<n
  ·have hkl:k<l.length:=by omega
   have hkm:k<(dm cK l k).length:=by rw [gO];exact hkl
   have hc:=hb.out.cell hkm;have hf:=hb.out.soft hkm;rw [nf cK hkl hkm] at hc;by_cases h32:l[k]=32
   ·rw [h32] at hc
    have H32:=Lib.hid h32
    clear h32 hkm
    go_wp2
    refine ⟨⟨k+1,by simp,hkn,?_⟩,by simp [intOf];omega⟩;have e:cK l[k]=44:=by unfold cK;rw [if_pos H32.out]
    have h2:=hb.out.set (by rw [gO];exact hkl) (44:UInt8);have h3:=kP cK hkl;rw [e] at h3;rw [h3] at h2;exact h2
   ·have e:cK l[k]=l[k]:=by unfold cK;rw [if_neg h32]
    have h3:=Lib.hid (nY cK hkl e)
    clear e
    have hd:¬ (l[k].toNat:Int)=32:=λh=>h32 (UInt8.toNat_inj.1 (by simpa using Int.ofNat.inj h))
    clear h32 hkm
    generalize l[k]=c at hc hd
    go_wp2
    refine ⟨⟨k+1,by simp,hkn,?_⟩,by simp [intOf];omega⟩;have:=hb.out;rw [<- h3.out] at this;exact this
  ·have hkn':k=n:=by omega
   subst hkn';have hB:=hb.out;rw [HN.out,pZ] at hB;have ht:=hB.text (by rw [List.length_map];exact hl) C Tryd.underlying71 Tryd.underlying5 Tryd.underlying9;rw [List.length_map,<- HN.out] at ht;have HB:=Lib.hid hB
   clear hB
   go_wp2
   go_ret
   exact ⟨rfl,HB.out.1⟩
theorem kz (o:List Part) (hl:nL ay o<=2 ^ 40):ag Tryd.prog 23 [.c (.s (o.map Part.row))] (.one (.c (vs (fj (be o))) 1)):=by
 refine ⟨⟨_,Tryd.func23,by kernel_rfl,by kernel_rfl⟩,λw _ xs hxs hargs=>?_⟩;obtain ⟨a,rfl⟩:=yI hxs;have hle:=da o;refine (so a (be o) w (by omega) (((jx o hl).2 w trivial #[a] rfl hargs).mono ?_)).mono ?_
 ·rintro e w' ⟨v,rfl,hb,hv⟩
  obtain ⟨rfl,-⟩:=hv;exact ⟨rfl,hb⟩
 ·rintro e w' ⟨rfl,hb⟩
  exact ⟨_,rfl,hb,rfl,rfl⟩
open Go.AM
set_option maxRecDepth 20000
set_option maxHeartbeats 6400000
attribute [local simp] fW dV bq dU dI wR
def bH (k:Int):List UInt8:=if k=0 then [111,107] else if k=1 then [105,110,118,97,108,105,100] else if k=2 then [102,117,116,117,114,101] else if k=3 then [111,108,100] else if k=4 then [115,101,113] else if k=5 then [108,97,114,103,101] else if k=6 then [110,111,100,111,99] else if k=7 then [104,97,118,101] else if k=8 then [110,111,115,117,98] else if k=9 then [101,118,105,99,116,101,100] else if k=10 then [102,117,108,108] else if k=11 then [98,117,115,121] else if k=12 then [99,108,111,115,101,100] else []
theorem jQ (k:Int):ag Tryd.prog 40 [.c (vi k)] (.one (.c (vs (bH k)) 1)):=by
 refine pci ak Tryd.func40 (λw0 base=>?_);simp;intro b;refine ab.pure (c8 k 0 12) (by simp) ?_;by_cases h:0<=k/\k<=12
 ·have hc:k=0\/k=1\/k=2\/k=3\/k=4\/k=5\/k=6\/k=7\/k=8\/k=9\/k=10\/k=11\/k=12:=by omega
  rcases hc with rfl|rfl|rfl|rfl|rfl|rfl|rfl|rfl|rfl|rfl|rfl|rfl|rfl
  all_goals simp [bH]
 ·have e:bH k=[]:=by
   unfold bH;rw [if_neg (by omega)];rw [if_neg (by omega)];rw [if_neg (by omega)];rw [if_neg (by omega)];rw [if_neg (by omega)];rw [if_neg (by omega)];rw [if_neg (by omega)];rw [if_neg (by omega)];rw [if_neg (by omega)];rw [if_neg (by omega)];rw [if_neg (by omega)];rw [if_neg (by omega)];rw [if_neg (by omega)]
  simp [h,e]
theorem jw (k:Int):ag Tryd.prog 36 [.c (vi k)] (.one (.c (vs (bH k)) 1)):=by
 refine pci ak Tryd.func36 (λw0 base=>?_);simp;refine ab.pure (d8 k 0 12) (by simp) ?_;by_cases h:0<=k/\k<=12
 ·have hc:k=0\/k=1\/k=2\/k=3\/k=4\/k=5\/k=6\/k=7\/k=8\/k=9\/k=10\/k=11\/k=12:=by omega
  rcases hc with rfl|rfl|rfl|rfl|rfl|rfl|rfl|rfl|rfl|rfl|rfl|rfl|rfl
  all_goals simp [bH]
 ·have e:bH k=[]:=by
   unfold bH;rw [if_neg (by omega)];rw [if_neg (by omega)];rw [if_neg (by omega)];rw [if_neg (by omega)];rw [if_neg (by omega)];rw [if_neg (by omega)];rw [if_neg (by omega)];rw [if_neg (by omega)];rw [if_neg (by omega)];rw [if_neg (by omega)];rw [if_neg (by omega)];rw [if_neg (by omega)];rw [if_neg (by omega)]
  simp [h,e]
end Go.Proofs.YtmfcmlldnjffeaaDoor
namespace Go.Proofs.YtmfcmlldnjffeaaDoor
open Go.AM
set_option maxRecDepth 20000
set_option maxHeartbeats 6400000
attribute [local simp] fW dV bq dU dI
theorem ge (e:Entry) (hl:aB e<=2 ^ 40):ag Tryd.prog 7 [.agg e.row] (.one (.c (vs (cj e)) 1)):=by
 refine pci ak Tryd.func7 (λw0 base=>?_);have h1:=aA e.client;have h2:=aA e.seq;have h3:=fi e.o;simp [Entry.row];intro b;refine au.quiet eok mix (by kernel_rfl) ?_;simp;refine ⟨_,_,aG e.client,by simp,?_⟩;simp;refine ⟨by omega,_,_,aG e.seq,by simp,?_⟩;simp;refine ⟨by omega,by omega,_,_,kz e.o hl,by simp,?_⟩;simp;refine ⟨by omega,?_⟩;simp [cj]
theorem cx (e:Entry):(cj e).length<=2500022:=by
 have h1:=aA e.client;have h2:=aA e.seq;have h3:=fi e.o;unfold cj;simp;omega
noncomputable def bb (e:Entry):List UInt8:=32::cj e
noncomputable def aU (a:Answer):List UInt8:=if a.code=0 then [111,107]++(32::(ah a.rev++32::ao a.text))++(a.list.map bb).flatten else bH a.code
theorem fE (l:List Int):(ao l).length<=11*l.length+1:=by
 have:=c9 l;unfold ao
 split
 ·split
  ·simp
  ·omega
 ·simp
theorem je {α:Type} {l:List α} {i:Nat} (h:i<l.length) (f:α->List UInt8):((l.map f).take (i+1)).flatten=((l.map f).take i).flatten++f l[i]:=by
 have h':i<(l.map f).length:=by simpa using h
 rw [List.take_succ_eq_append_getElem h',List.flatten_append,List.getElem_map];simp
theorem jZ {α:Type} (f:α->List UInt8) {B:Nat} (hf:∀ a,(f a).length<=B):∀ (l:List α) (i:Nat),(((l.map f).take i).flatten).length<=B*l.length
 | [],i=>by simp
 |a::l,0=>by simp
 | a :: l, i + 1 => by
   have h1:=hf a;have h2:=jZ f hf l i;simp only [List.map_cons,List.take_succ_cons,List.flatten_cons,List.length_append,List.length_cons,Nat.mul_succ];omega
theorem nT {k:Int}:bH k=[111,107] ↔ k=0:=by
 constructor
 ·intro h
  by_cases hk:0<=k/\k<=12
  ·have hc:k=0\/k=1\/k=2\/k=3\/k=4\/k=5\/k=6\/k=7\/k=8\/k=9\/k=10\/k=11\/k=12:=by omega
   rcases hc with rfl|rfl|rfl|rfl|rfl|rfl|rfl|rfl|rfl|rfl|rfl|rfl|rfl
   ·rfl
   all_goals exact absurd h (by decide)
  ·exfalso
   unfold bH at h;rw [if_neg (by omega),if_neg (by omega),if_neg (by omega),if_neg (by omega),if_neg (by omega),if_neg (by omega),if_neg (by omega),if_neg (by omega),if_neg (by omega),if_neg (by omega),if_neg (by omega),if_neg (by omega),if_neg (by omega)] at h
   cases h
 ·intro h;subst h;rfl
theorem fo (a:Answer) (hl:ba a<=2 ^ 22):aN Tryd.prog LT 19 [.agg a.row] (.one (.c (vs (aU a)) 1)):=by
 refine aN.intro' ak LT.stay Tryd.func19 (by kernel_rfl) rfl rfl rfl (Nat.le_of_ble_eq_true rfl) (λw0 base eok=>?_);obtain ⟨code,rev,text,list⟩:=a;unfold ba at hl;simp only at hl;have hL:nL aB list<=2 ^ 22:=by omega
 have hlen:=cX hL;simp [Answer.row];intro b;refine ab.pure (jQ code) (by simp) ?_;by_cases h0:code=0
 rotate_left
 ·have e:aU ⟨code,rev,text,list⟩=bH code:=by unfold aU;rw [if_neg h0]
  simp [h0,e]
 have h1:=aA rev;have h2:=fE text;have e:aU ⟨code,rev,text,list⟩=[111,107]++(32::(ah rev++32::ao text))++(list.map bb).flatten:=by unfold aU;rw [if_pos h0]
 subst h0;have e0:bH 0=[111,107]:=rfl;simp [e0];rw [e];obtain ⟨T,hT⟩:∃ T:List UInt8,[111,107]++(32::(ah rev++32::ao text))=T:=⟨_,rfl⟩;have hTl:T.length<=2 ^ 30:=by rw [<- hT];simp;omega
 rw [hT];have q1:1+(ah rev).length<=140737488355328:=by omega
 have q2:(ah rev).length<=140737488355326:=by omega
 have q3:(ah rev).length+1+1+(ao text).length<=140737488355328:=by omega
 have q4:2+((ah rev).length+((ao text).length+1)+1)<=140737488355328:=by omega
 refine ip (λx:Unit=>[(3,.v (.string (bs T)))]) (λx=>[]) [1] ?_ ?_
 ·refine drw eok mix [0,1,2,6,7] [3,4,5,8,9,10,11] (.c 5 3 4 27 (.c 5 4 0 27 (.c 5 5 0 27 (.c 5 8 1 26 (.c 5 9 0 26 (.c 5 10 16 10 (.c 5 11 10 0 (.l 5 0) .s) .s) .s) .s) (.c 5 8 1 26 (.c 5 5 0 26 (.c 5 9 0 26 (.c 5 10 16 10 (.c 5 11 10 0 (.l 5 0) .s) .s) .s) .s) .s)) (.c 5 8 1 26 (.c 5 4 0 26 (.c 5 5 0 26 (.c 5 9 0 26 (.c 5 10 16 10 (.c 5 11 10 0 (.l 5 0) .s) .s) .s) .s) .s) .s)) .s) ?_
  simp
  try intros
  repeat' first
   |(refine ar eok (bo rev) (by simp) ?_;simp;try intros)
   |(refine ar eok (gR text (by omega)) (by simp) ?_;simp [q1,q2,q3,q4];try intros)
   |(rw [Trc];refine ⟨?_,?_⟩<;>(try simp [q1,q2])<;>try intros)
  all_goals
   simpa using hT
 rintro ⟨⟩
 simp;have hFl:∀ i,(((list.map bb).take i).flatten).length<=2500023*list.length:=jZ bb (λe=>by have:=cx e;simp [bb];omega) list;refine aR eok (λi:Nat=>i<=list.length) (λi=>⟨38,0,[(27,.v (.int .i64 i)),(26,.v (.int .i64 list.length)),(25,.ro (list.map Entry.row)),(3,.v (.string (bs (T++((list.map bb).take i).flatten))))],[]⟩) (λi=>list.length - i) 0 (by simp) (by simp) (λi hi=>Ent.refl ?_);have hji:=hFl i;by_cases hlt:i<list.length
 rotate_left
 ·have e:i=list.length:=by omega
  have ht:(list.map bb).take list.length=list.map bb:=List.take_of_length_le (by simp);subst e;simp [ht]
 have hn:=je hlt bb;have hx:=fM hL hlt;have hxl:=cx list[i];obtain ⟨x,hxi⟩:∃ x,list[i]=x:=⟨_,rfl⟩;rw [hxi] at hn hx hxl;generalize ((list.map bb).take i).flatten=S at hn hji ⊢;simp [hlt,hxi,Entry.row];intro b5;refine ar eok (gj x (by omega)) (by simp [Entry.row]) ?_;simp;refine ⟨by omega,by omega,Ent.refl ⟨i+1,by omega,by omega,?_⟩⟩;simp [hn,bb];exact aq (by omega)
theorem ff (a:Answer) (hl:ba a<=2 ^ 22):ag Tryd.prog 17 [.agg a.row] (.one (.c (vs (aU a)) 1)):=by
 refine pci ak Tryd.func17 (λw0 base=>?_);obtain ⟨code,rev,text,list⟩:=a;unfold ba at hl;simp only at hl;have hL:nL aB list<=2 ^ 22:=by omega
 have hlen:=cX hL;simp [Answer.row];intro b;refine ab.pure (jw code) (by simp) ?_;by_cases h0:code=0
 rotate_left
 ·have e:aU ⟨code,rev,text,list⟩=bH code:=by unfold aU;rw [if_neg h0]
  have h1:¬ bH code=[111,107]:=λh=>h0 (nT.1 h)
  simp [h1,e]
 have h1:=aA rev;have h2:=fE text;have e:aU ⟨code,rev,text,list⟩=[111,107]++(32::(ah rev++32::ao text))++(list.map bb).flatten:=by unfold aU;rw [if_pos h0]
 subst h0;have e0:bH 0=[111,107]:=rfl;simp [e0];rw [e];obtain ⟨T,hT⟩:∃ T:List UInt8,[111,107]++(32::(ah rev++32::ao text))=T:=⟨_,rfl⟩;have hTl:T.length<=2 ^ 30:=by rw [<- hT];simp;omega
 rw [hT];have q1:3+(ah rev).length<=140737488355328:=by omega
 have q2:(ah rev).length<=140737488355324:=by omega
 have q3:(ah rev).length+1+1+1+1+(ao text).length<=140737488355328:=by omega
 refine ip (λx:Unit=>[(3,.v (.string (bs T)))]) (λx=>[]) [1] ?_ ?_
 ·refine drw eok mix [0,1,2,3,7,8] [4,5,6,9,10,11] (.c 6 4 4 59 (.c 6 5 16 43 (.c 6 6 0 43 (.c 6 9 1 42 (.c 6 10 0 42 (.c 6 11 42 0 (.l 6 0) .s) .s) .s) (.c 6 9 1 42 (.c 6 6 0 42 (.c 6 10 0 42 (.c 6 11 42 0 (.l 6 0) .s) .s) .s) .s)) (.c 6 9 1 58 (.c 6 5 16 42 (.c 6 6 0 42 (.c 6 10 0 42 (.c 6 11 42 0 (.l 6 0) .s) .s) .s) .s) .s)) .s) ?_
  simp
  try intros
  repeat' first
   |(refine ab.pure (aG rev) (by simp) ?_;simp;try intros)
   |(refine ab.pure (cD text (by omega)) (by simp) ?_;simp [q1,q2,q3];try intros)
   |(rw [Trc];refine ⟨?_,?_⟩<;>(try simp [q1,q2])<;>try intros)
  all_goals
   simpa using hT
 rintro ⟨⟩
 simp;have hFl:∀ i,(((list.map bb).take i).flatten).length<=2500023*list.length:=jZ bb (λe=>by have:=cx e;simp [bb];omega) list;refine aR eok (λi:Nat=>i<=list.length) (λi=>⟨37,0,[(26,.v (.int .i64 i)),(25,.v (.int .i64 list.length)),(24,.ro (list.map Entry.row)),(3,.v (.string (bs (T++((list.map bb).take i).flatten))))],[]⟩) (λi=>list.length - i) 0 (by simp) (by simp) (λi hi=>Ent.refl ?_);have hji:=hFl i;by_cases hlt:i<list.length
 rotate_left
 ·have e:i=list.length:=by omega
  have ht:(list.map bb).take list.length=list.map bb:=List.take_of_length_le (by simp);subst e;simp [ht]
 have hn:=je hlt bb;have hx:=fM hL hlt;have hxl:=cx list[i];obtain ⟨x,hxi⟩:∃ x,list[i]=x:=⟨_,rfl⟩;rw [hxi] at hn hx hxl;generalize ((list.map bb).take i).flatten=S at hn hji ⊢;simp [hlt,hxi,Entry.row];refine λb5=>⟨by omega,?_⟩
 refine ab.pure (ge x (by omega)) (by simp [Entry.row]) ?_;simp;refine ⟨by omega,Ent.refl ⟨i+1,by omega,by omega,?_⟩⟩;simp [hn,bb];exact aq (by omega)
end Go.Proofs.YtmfcmlldnjffeaaDoor
namespace Go.Proofs.YtmfcmlldnjffeaaDoor
open Go.AM
set_option maxRecDepth 20000
set_option maxHeartbeats 6400000
attribute [local simp] fW dV bq dU dI
end Go.Proofs.YtmfcmlldnjffeaaDoor
namespace Go.Proofs.YtmfcmlldnjffeaaDoor
open Go.AM
set_option maxRecDepth 20000
noncomputable def dS (a:Answer):ByteArray:=bs (aU a)
theorem fe (a:Answer) (_:a.fits) (n:ba a<=2 ^ 20):ag Tryd.prog 17 [.agg a.row] (.one (.c (.v (.string (dS a))) 1)):=ff a (by omega)
theorem fp (a:Answer) (_:a.fits) (n:ba a<=2 ^ 20):aN Tryd.prog LT 19 [.agg a.row] (.one (.c (.v (.string (dS a))) 1)):=fo a (by omega)
open Go.AM Go.ChangeShapes Go.WideShapes Go.ChangeAt Go.RowKit
theorem pA {H:Type} {enc:TypeId×Value->H} {a:Assume} {C:Checked} {os:Os} {f:FuncId} {fn:Func} {s:ChangeSpec} {conds:List PathCond} {apart fresh handsOn again:Bool} {X:World->Array Value->Prop}
 (hX:∀ (w w':World) (args:Array Value),w.heap=w'.heap->X w args->X w' args)
 (own:ownKnob C.prog.godebug=none) (started:os.Started) (noInit:C.prog.inits.idxOf? f=none) (hfn:C.prog.funcs[f]? = some fn)
 (witness:∃ (w:World) (tape:Tape) (i:Input),w.os=os /\ (w.forCall tape i).Shaped C.prog /\ i.vars=[] /\ Input.okWide C.prog (w.forCall tape i) .any w.heap.size f i /\
  ((s.pre enc C.prog fn conds apart (w.forCall tape i).memory i.args/\X (w.forCall tape i).memory i.args)/\sizedMet enc C.prog fn (OpenSpec.ofChange s) apart (w.forCall tape i).memory i.args)/\a.holds C.prog (lone (Frame.enter C.prog f i.args .normal) [] (w.forCall tape i)))
 (contract:∀ (W:World) (base:Nat) (args:Array Value) (ds gs:List (DataW H)) (before:List MemPlace),
  (∀ (j:Nat) t v,fn.params[j]? = some t -> args[j]? = some v -> Value.okWide C.prog W .any base t v) ->
  DataW.Whole enc C.prog fn.params.toList s.vars apart W args.toList ds gs before -> X W args -> W.ShapedOpen C.prog ->
  Calls C.prog f args W λe W'=>∃ v,e=.returned v/\s.post enc C.prog fn apart fresh handsOn again W args v W') :
 ReturnsInHanded a C os f .any (λw args=>(s.pre enc C.prog fn conds apart w args/\X w args)/\sizedMet enc C.prog fn (OpenSpec.ofChange s) apart w args) (s.post enc C.prog fn apart fresh handsOn again):=by
 refine returnsInHanded_of_calls own started noInit witness ?_;intro w tape i _ hsh _ hok hpre hholds;obtain ⟨_,_,_,fn',hfn',_,_,_,_,hval⟩:=hok;have e:fn'=fn:=Option.some.inj (hfn'.symm.trans hfn);subst e;obtain ⟨⟨⟨ds,gs,before,hw,hc⟩,hx⟩,hz⟩:=hpre;have hw':=DataW.Whole.of_heap (w':=w.forCall tape i) (by rfl) hw;refine (contract (w.forCall tape i) w.heap.size i.args ds gs before hval hw' (hX _ _ _ (by rfl) hx) hsh).mono λe W' ⟨v,he,hp⟩=>?_
 subst he;exact ChangeSpec.post_blind hp
theorem rT : Tryd.prog.globalNamed "internal/strconv.uint64pow10" = some 0 := by kernel_rfl
theorem rS:(Tryd.prog.globals[0]?).map (·.type)=some 119:=by kernel_rfl
theorem x8 {a b : String × DataW Unit} {r : List (String × DataW Unit)} {W : World} (h : laidMet Tryd.prog (a :: b :: ("internal/strconv.uint64pow10", Lib.tabData .u64 Lib.pow10Tab) :: r) W) (hsh : W.ShapedOpen Tryd.prog) (he : rm W) : LT W :=
 ⟨Lib.tabIs_of_head (t:=119) (e:=109) (n:=20) rT rS (by kernel_rfl) (by kernel_rfl) (by kernel_rfl) (by kernel_rfl) h.tail.tail,cell_of_shapedOpen_int (zero:=#[.int .i64 0]) (t:=3) hsh (of_decide_eq_true (by kernel_rfl)) (by kernel_rfl) rfl (by kernel_rfl) (by kernel_rfl) Tryd.underlying3,he⟩
theorem sh {l:List (String×DataW Unit)} {os:Os} (args:Array Value) (hp:(l.all λx=>x.2.handleName?.isNone)=true)
 (hf:(World.holding Tryd.prog os ⟨#[],#[],[]⟩).layFits Tryd.prog l []=true) (hi:(World.holding Tryd.prog os ⟨#[],#[],[]⟩).layIfaces Tryd.prog l (World.laidAll Tryd.prog os l)=true) :
 laidMetH Tryd.prog l ((World.laidAll Tryd.prog os l).forCall (λ_ _=>0) ⟨#[],args,[]⟩).memory:=by
 rw [MakeChecks.laidMetH_plain _ _ _ hp];exact laidMet_laidAll args hf hi
end Go.Proofs.YtmfcmlldnjffeaaDoor
