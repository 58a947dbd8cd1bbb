import Derived.Test.YtmfcmlldnjffeaaDoorPA
import Derived.Test.YtmfcmlldnjffeaaDoorPB
import Derived.Lib.AtoiAllCases
import Derived.Lib.AppendIntMem
import Derived.WalkKit
import Derived.BigCall
import Derived.Test.YtmfcmlldnjffeaaDoorMF
import Derived.Lib.AtoiErrMem
import Derived.Lib.ConvBytes
import Derived.Lib.Hide
import Derived.LaidMore
import Derived.Lay
import Derived.HandedShaped
import Derived.Stop.LaidErr
import Derived.MakeChecks
import Derived.SevenTiedAt
import Derived.Lib.LaidTab
import Derived.Shelf.Vars
namespace Go.Proofs.YtmfcmlldnjffeaaDoor
open Go.AM
set_option maxRecDepth 20000
def chn (L:List Part):Prop:=∀ i,∀ h:i+1<L.length,L[i].kind≠L[i+1].kind
theorem mT:chn []:=λi h=>by simp at h
theorem qi {p:Part} {L:List Part} (h:chn (p::L)):chn L/\∀ h0:0<L.length,p.kind≠L[0].kind:=by
 refine ⟨λi hi=>?_,λh0=>?_⟩
 ·have:=h (i+1) (by simp;omega)
  simpa using this
 ·have:=h 0 (by simp;omega)
  simpa using this
theorem dJ {L:List Part} {p:Part} (h:chn L) (hp:∀ h:0<L.length,(L[L.length - 1]'(by omega)).kind≠p.kind):chn (L++[p]):=by
 intro i hi;simp at hi;by_cases c:i+1<L.length
 ·rw [List.getElem_append_left (by omega),List.getElem_append_left c];exact h i c
 ·have h0:0<L.length:=by omega
  have:=hp h0;rw [List.getElem_append_left (by omega),List.getElem_append_right (by omega)];have e:i=L.length - 1:=by omega
  subst e
  simpa using this
theorem se {L:List Part} {i:Nat} {p:Part} (h:chn L) (hi:i<L.length) (hk:p.kind=L[i].kind):chn (L.set i p):=by
 intro j hj;simp at hj;have h1:=h j hj;rw [List.getElem_set,List.getElem_set]
 split
 ·rename_i e;subst e
  rw [if_neg (by omega),hk];exact h1
 ·split
  ·rename_i e;subst e;rw [hk];exact h1
  ·exact h1
def pA (L:List Part):Prop:=∀ h:0<L.length,(L[L.length - 1]'(by omega)).kind=1
theorem gt {L:List Part} {p:Part}:(((L++[p])[(L++[p]).length - 1]'(by simp))).kind=p.kind:=by simp
theorem iN {L:List Part} {P:List Int} {D:Int} (h:chn L) (hl:pA L):chn (ag L P D):=by
 unfold ag
 split
 ·split
  ·rw [List.nil_append]
   exact dJ h λh0=>by rw [hl h0];simp
  ·simpa using h
 ·have h1:chn (L++[⟨2,0,P⟩]):=dJ h λh0=>by rw [hl h0];simp
  split
  ·rw [<- List.append_assoc]
   exact dJ h1 λh0=>by rw [gt];simp
  ·simpa using h1
theorem pD {L:List Part} {n:Int} (h:chn L):chn (aI L n)/\pA (aI L n):=by
 unfold aI
 split
 ·rename_i h0
  split
  ·rename_i hk
   refine ⟨se h (by omega) hk.symm,λh1=>?_⟩;simp
  ·rename_i hk
   refine ⟨dJ h λ_=>hk,λh1=>?_⟩;rw [gt]
 ·exact ⟨dJ (L:=[]) mT (λh=>by simp at h),λ_=>rfl⟩
theorem iI (o:List Part):∀ (i:Nat),i<=o.length->chn (ao (o.take i)).1/\pA (ao (o.take i)).1
 | 0, _ => by
   simp only [ao,List.take_zero,List.foldl_nil];exact ⟨mT,λh=>by simp at h⟩
 | i + 1, hi => by
   obtain ⟨h1,h2⟩:=iI o i (by omega);rw [cb (show i<o.length by omega)];generalize ao (o.take i)=s at h1 h2;unfold bp
   split
   ·exact ⟨h1,h2⟩
   ·split
    ·exact ⟨h1,h2⟩
    ·split
     ·exact pD (iN h1 h2)
     ·exact ⟨h1,h2⟩
theorem lz (o:List Part):chn (normal o):=by
 obtain ⟨h1,h2⟩:=iI o o.length (Nat.le_refl _);rw [List.take_length] at h1 h2;exact iN h1 h2
def hY:At->List Part->List Part
 | .k,[]=>[⟨1,1,[]⟩]
 | .k,p::l=>if p.kind=1 then ⟨1,p.n+1,[]⟩::l else ⟨1,1,[]⟩::p::l
 | .d,[]=>[⟨3,1,[]⟩]
 | .d,p::l=>if p.kind=3 then ⟨3,p.n+1,[]⟩::l else ⟨3,1,[]⟩::p::l
 | .p c,[]=>[⟨2,0,[c]⟩]
 | .p c,p::l=>if p.kind=2 then ⟨2,0,c::p.signs⟩::l else ⟨2,0,[c]⟩::p::l
def grp (l:List At):List Part:=l.foldr hY []
theorem pR {L:List Part} (h:∀ h0:0<L.length,L[0].kind≠1):∀ n:Nat,(List.replicate (n+1) At.k).foldr hY L=⟨1,(n:Int)+1,[]⟩::L
 | 0 => by
   cases L with
   |nil=>rfl
   |cons p l=>have:=h (by simp);simp at this;simp [hY,this]
 | n + 1 => by
   rw [List.replicate_succ,List.foldr_cons,pR h n];simp [hY]
theorem pS {L:List Part} (h:∀ h0:0<L.length,L[0].kind≠3):∀ n:Nat,(List.replicate (n+1) At.d).foldr hY L=⟨3,(n:Int)+1,[]⟩::L
 | 0 => by
   cases L with
   |nil=>rfl
   |cons p l=>have:=h (by simp);simp at this;simp [hY,this]
 | n + 1 => by
   rw [List.replicate_succ,List.foldr_cons,pS h n];simp [hY]
theorem pQ {L:List Part} (h:∀ h0:0<L.length,L[0].kind≠2):∀ (Q:List Int) (c:Int),((c::Q).map At.p).foldr hY L=⟨2,0,c::Q⟩::L
 | [], c => by
   cases L with
   |nil=>rfl
   |cons p l=>have:=h (by simp);simp at this;simp [hY,this]
 | d :: Q, c => by
   rw [List.map_cons,List.foldr_cons,pQ h Q d];simp [hY]
theorem iM:∀ {L:List Part},(∀ q∈L,Shp q)->chn L->grp (au L)=L
 | [],_,_=>rfl
 | p :: L, hs, hc => by
   obtain ⟨h1,h2⟩:=qi hc;have ih:=iM (λq hq=>hs q (List.mem_cons_of_mem _ hq)) h1;have hp:=hs p (List.mem_cons_self ..);unfold grp at ih ⊢;rw [au,List.foldr_append,ih];have hpos:=hp.pos;have hn:=hp.n;unfold ats;obtain ⟨kd,n,sg⟩:=p;by_cases k2:kd=2
   ·subst k2
    obtain ⟨e1,-⟩:=hp.put rfl;simp only at e1;subst e1;simp only [if_true]
    cases sg with
    |nil=>simp [psz] at hpos
    |cons c Q=>exact pQ (λh0=>by have:=h2 h0;simpa using this.symm) Q c
   ·have e1:=hp.run k2
    simp only at e1 hn;subst e1;have hz:psz ⟨kd,n,[]⟩=n.toNat:=by simp [psz]
    rw [hz] at hpos;obtain ⟨m,hm⟩:∃ m,n.toNat=m+1:=⟨n.toNat - 1,by omega⟩;have hnm:n=(m:Int)+1:=by omega
    rw [hz,hm,if_neg k2];by_cases k3:kd=3
    ·subst k3
     simp only [if_true];rw [pS (λh0=>by have:=h2 h0;simpa using this.symm),hnm]
    ·have k1:kd=1:=by rcases hp.k with h|h|h<;>simp only at h<;>omega
     subst k1;rw [if_neg (by simp),pR (λh0=>by have:=h2 h0;simpa using this.symm),hnm]
theorem mC:∀ (l:List At) (P:List Int) (n:Nat),nA [] 0 (nA P n l)=nA P n l
 | [], P, n => by
   have h2:=mE n P 0 [];rw [List.append_nil,Nat.zero_add] at h2;rw [nA,mB,List.nil_append,h2,nA]
 | .k :: l, P, n => by
   rw [nA,mB,mE,List.nil_append,Nat.zero_add,nA,mC l]
 | .p c::l,P,n=>by rw [nA,mC l]
 | .d::l,P,n=>by rw [nA,mC l]
theorem gl {o:List Part} (h:∀ p∈o,ak p):normal o=grp (eq (au o)):=by
 rw [<- dT h,iM (ec h) (lz o)]
theorem hI {o:List Part} (h:ca o):normal (normal o)=normal o:=by
 have h2:=(iG h).1;rw [gl h2.1.1,dT h.1.1,gl h.1.1];unfold eq;rw [mC]
theorem hO {o:List Part} (h:ca o):lI (normal o):=by
 have h2:=(iG h).1;refine ⟨h2,?_⟩;unfold aG;rw [if_pos h2,hI h]
theorem bz {o:List Part} (h:ca o):lI (aG o):=by
 have e:aG o=normal o:=by unfold aG;rw [if_pos h]
 rw [e];exact hO h
theorem lU:∀ (k m:Nat),m<10 ^ (k+1)->(Lib.decDigits m).length<=k+1:=by
 intro k
 induction k with
 |zero=>intro m h;rw [f7 (by omega)];simp
 | succ k ih =>
   intro m h;by_cases h9:m<10
   ·rw [f7 h9];simp
   ·rw [gA h9]
    have:=ih (m / 10) (by rw [Nat.pow_succ] at h;omega);simp;omega
def cQ (l:List Int):List UInt8:=Lib.join (l.map al) [46]
open Classical in
noncomputable def cf (l:List Int):List UInt8:=if bi l then (if l=[] then [45] else cQ l) else []
def ae (p:Part):List UInt8:=if p.kind=1 then 107::al p.n else if p.kind=2 then 112::cQ p.signs else 100::al p.n
open Classical in
noncomputable def aZ (o:List Part):List UInt8:=if ca o then (if aG o=[] then [45] else Lib.join ((aG o).map ae) [32]) else []
theorem kj {o:List Part} (h:lI o):∀ p∈o,Shp p/\p.n<=200:=by
 have e:aG o=normal o:=by unfold aG;rw [if_pos h.1]
 intro p hp;have h1:=h.1.1.1 p hp;refine ⟨?_,h1.bounds.2.2.1⟩;rw [<- h.2,e] at hp;exact ec h.1.1.1 p hp
theorem mm {p:Part} (h:Shp p) (h2:p.kind=2):p.signs≠[]:=λe=>by
 have:=h.pos;have h0:=(h.put h2).1;unfold psz at this;simp [e,h0] at this
theorem ea {l:List Int} (h:bi l) (hl:l≠[]):cf l=cQ l:=by unfold cf;rw [if_pos h,if_neg hl]
theorem rn (p:Part):ae p≠[]:=by unfold ae;(repeat' split)<;>simp
open Go.AM Go.RowKit
def qM (_:World):Prop:=True
def LT (w:World):Prop:=
 Lib.TabIs Tryd.prog w "internal/strconv.uint64pow10" .u64 Lib.pow10Tab ∧ (∃ m, w.cell? ⟨1, 0, none⟩ = some (.int .i64 m)) ∧ qM w
theorem nS {w w':World} (h:BelowF (λc=>c<w.heap.size) w w') {a:Addr} {v:Value} (hc:w.cell? a=some v):w'.cell? a=some v:=by
 unfold World.cell? at hc ⊢
 cases hb:w.heap[a.block]? with
 |none=>rw [hb] at hc;cases hc
 |some o=>rw [h.block _ (bb hb),hb];rw [hb] at hc;exact hc
theorem oz {P:Program} {w w':World} (h:BelowF (λc=>c<w.heap.size) w w') {n:String} {cs:Array Value} (hc:w.var? P n=some cs):w'.var? P n=some cs:=by
 unfold World.var? at hc ⊢
 cases hg:P.globalNamed n with
 |none=>rw [hg] at hc;cases hc
 | some g =>
   rw [hg] at hc;simp only [Option.bind_some] at hc ⊢
   cases hb:w.heap[g]? with
   |none=>rw [hb] at hc;cases hc
   |some o=>rw [h.block _ (bb hb),hb];rw [hb] at hc;exact hc
theorem qM.stay:LSt qM:=λ_ _ _ _=>trivial
theorem LT.stay:LSt LT:=λw w' h ⟨h1,⟨m,h2⟩,h3⟩=>⟨oz h h1,⟨m,nS h h2⟩,qM.stay w w' h h3⟩
theorem yb {xs:Array Value} (h:xs.size=1):∃ a,xs = #[a]:=by
 obtain ⟨l⟩:=xs
 match l,h with
 | [a],_=>exact ⟨a,rfl⟩
theorem Ap {xs:Array Value} (h:xs.size=2):∃ a b,xs = #[a,b]:=by
 obtain ⟨l⟩:=xs
 match l,h with
 | [a,b],_=>exact ⟨a,b,rfl⟩
theorem Ao {xs:Array Value} (h:xs.size=3):∃ a b c,xs = #[a,b,c]:=by
 obtain ⟨l⟩:=xs
 match l,h with
 | [a,b,c],_=>exact ⟨a,b,c,rfl⟩
theorem o4 {w:World} {v u:Value} (h:RdV w v (.c (.v u))):v=u:=by cases h;rfl
theorem kC (c:UInt8):∀ (a b:List UInt8),c ∉ a->Lib.index (a++c::b) [c]=(a.length:Int)
 | [],b,_=>by simp [Lib.index,List.isPrefixOf]
 | x :: a, b, h => by
   have hx:c≠x:=λe=>h (by simp [e])
   have ih:=kC c a b (λe=>h (by simp [e]));have hp:([c]:List UInt8).isPrefixOf (x::(a++c::b))=false:=by simp [List.isPrefixOf,hx]
   rw [List.cons_append,Lib.index,hp,ih];have hn:¬ (((a.length:Int) == -1)=true):=by rw [beq_iff_eq];omega
   simp only [Bool.false_eq_true,if_false,if_neg hn,List.length_cons];omega
theorem p8 (c:UInt8) (l:List UInt8) (h:c∈l):∃ a b,l=a++c::b/\c ∉ a:=by
 induction l with
 |nil=>simp at h
 | cons x l ih =>
   by_cases hx:x=c
   ·exact ⟨[],l,by simp [hx],by simp⟩
   ·obtain ⟨a,b,h1,h2⟩:=ih (by rcases List.mem_cons.1 h with h|h;exact absurd h.symm hx;exact h)
    exact ⟨x::a,b,by simp [h1],λe=>by rcases List.mem_cons.1 e with e|e;exact hx e.symm;exact h2 e⟩
theorem jf (c d:UInt8):∀ (n:Nat) (l:List UInt8),l.length<=n->Lib.replaceK [c] [d] (Lib.count l [c]) l=l.map λx=>if x=c then d else x:=by
 intro n
 induction n with
 | zero =>
   intro l hl;have:l=[]:=List.length_eq_zero_iff.1 (by omega);subst this;rw [Lib.count_one];rfl
 | succ n ih =>
   intro l hl
   have hno:∀ a:List UInt8,c ∉ a->(a.map λx=>if x=c then d else x)=a:=λa ha=>by
    conv=>rhs;rw [<- List.map_id a]
    exact List.map_congr_left λx hx=>by rw [if_neg (λe=>ha (by rw [<- e];exact hx))];rfl
   by_cases hc:c∈l
   ·obtain ⟨a,b,rfl,ha⟩:=p8 c l hc
    have hi:=kC c a b ha;have hd:(a++c::b).drop (a.length+1)=b:=by simp
    rw [Lib.count_hit (by simp) hi,Nat.add_comm,Lib.replaceK_hit _ _ _ _ _ hi];simp at hl;simp only [List.length_singleton,hd,ih b (by omega),List.map_append,List.map_cons,hno a ha];simp
   ·have h0:Lib.count l [c]=0:=by rw [Lib.count_one];exact List.count_eq_zero.2 hc
    rw [h0,hno l hc];rfl
theorem j7 (s:List UInt8) (c d:UInt8) (h:c≠d):Lib.replaceAll s [c] [d]=s.map λx=>if x=c then d else x:=by
 unfold Lib.replaceAll Lib.replace;have hn:¬ (([c]:List UInt8) == [d])=true:=by rw [beq_iff_eq];simpa using h
 rw [if_neg hn];exact jf c d s.length s (Nat.le_refl _)
theorem uO (n:Int) (h0:0<=n) (h1:n<=9223372036854775807):aS Tryd.prog LT 47 [.c (vi n)] (.one (.c (vs (Lib.itoa n)) 1)):=by
 refine ⟨⟨_,Tryd.func47,by kernel_rfl,by kernel_rfl⟩,λw hL xs hxs hargs=>?_⟩;obtain ⟨a,rfl⟩:=yb hxs;obtain rfl:=o4 (hargs 0 _ rfl);refine (Any.strconv_Itoa ik n (by omega) h1 w hL.1).mono ?_
 rintro e w' ⟨rfl,k,os,rfl⟩
 exact ⟨_,rfl,Lib.below_grow _ _ (Nat.le_refl _) k os,rfl,rfl⟩
theorem nd (s:List UInt8) (c d:UInt8) (hcd:c≠d) (hl:s.length<=2 ^ 31):aS Tryd.prog LT 48 [.c (vs s),.c (vs [c]),.c (vs [d])] (.one (.c (vs (s.map λx=>if x=c then d else x)) 1)):=by
 refine ⟨⟨_,Tryd.func48,by kernel_rfl,by kernel_rfl⟩,λw hL xs hxs hargs=>?_⟩;obtain ⟨a,b,f,rfl⟩:=Ao hxs;obtain rfl:=o4 (hargs 0 _ rfl);obtain rfl:=o4 (hargs 1 _ rfl);obtain rfl:=o4 (hargs 2 _ rfl);obtain ⟨m,hm⟩:=hL.2.1;have hc:=Lib.countB_le (bs [c]) (by rw [bj];simp) (bs s).size (bs s) (Nat.le_refl _);refine (Any.strings_ReplaceAll jV dh (bs s) (bs [c]) (bs [d]) m w (by rw [bj];omega) hm (by rw [bj];simp) (by rw [bj] at hc ⊢;rw [bj];simp;omega)).mono ?_
 rintro e w' ⟨rfl,hb⟩
 refine ⟨_,rfl,hb,?_,rfl⟩;simp only [f8,j7 s c d hcd];rfl
theorem pE (l:List (List UInt8)) (c:UInt8) (hl:l.length<=2 ^ 40) (hj:(Lib.join l [c]).length<=140737488355328):aS Tryd.prog LT 64 [.c (.s (l.map wR)),.c (vs [c])] (.one (.c (vs (Lib.join l [c])) 1)):=by
 refine ⟨⟨_,Tryd.func64,by kernel_rfl,by kernel_rfl⟩,λw hL xs hxs hargs=>?_⟩;obtain ⟨a,b,rfl⟩:=Ap hxs;have h0:Rd w false (λ_=>True) a (.s (l.map wR)):=hargs 0 _ rfl;obtain rfl:=o4 (hargs 1 _ rfl);by_cases hn:l=[]
 ·subst hn
  obtain ⟨x,y,rfl⟩:=h0.empty_slice;refine (Any.strings_Join_none eK bV x y (bs [c]) w).mono ?_
  rintro e w' ⟨rfl,rfl⟩
  exact ⟨_,rfl,Below.refl _ _,rfl,rfl⟩
 generalize hr:l.map wR=rows at h0
 cases h0 with
 |empty a cap h=>exact absurd (List.map_eq_nil_iff.1 hr) hn
 | slice b off cap sz cs T fr rows F hcap hmax hsz hS hb hfit hown hF hd hlen hrd =>
   subst hr
   have hsz1:sz=1:=by
    cases l with
    |nil=>exact absurd rfl hn
    |cons x l=>have:=hlen (wR x) (by simp);rw [dt] at this;exact this.symm
   subst hsz1
   have hcells:∀ (j:Nat) x,(l.map bs)[j]? = some x->w.cell? ⟨b,off+j,none⟩=some (.string x):=λj x hj=>by
    rw [List.getElem?_map] at hj
    cases hx:l[j]? with
    |none=>rw [hx] at hj;cases hj
    | some y =>
      rw [hx] at hj
      cases hj
      have h1:=hrd j 0 (wR y) (vs y) (by rw [List.getElem?_map,hx];rfl) rfl;have hjl:j<l.length:=(List.getElem?_eq_some_iff.1 hx).1;simp only [List.length_map] at hfit;have h2:off+(j*1+0)<cs.size:=by omega
      have e3:off+(j*1+0)=off+j:=by omega
      rw [e3] at h1 h2;unfold World.cell?;rw [hb];generalize hv:cs.getD (off+j) undef=v at h1
      cases h1
      rw [Array.getD_eq_getD_getElem?,Array.getElem?_eq_getElem h2] at hv;simp at hv;simp [h2,hv]
   have hd2:(l.map bs).map (·.data.toList)=l:=by
    rw [List.map_map]
    conv=>rhs;rw [<- List.map_id l]
    exact List.map_congr_left λx _=>f8 x
   have:=Any.strings_Join eK bV b off cap (l.map bs) (bs [c]) w hcells (bb hb) (by rw [List.length_map];omega) (by rw [List.length_map] at hcap ⊢;exact hcap) (by rw [hd2,f8];exact hj);rw [hd2,f8] at this;simp only [List.length_map] at this ⊢;refine this.mono ?_
   rintro e w' ⟨rfl,hB⟩
   exact ⟨_,rfl,hB,rfl,rfl⟩
set_option maxRecDepth 100000
set_option maxHeartbeats 4000000
theorem bB (n:Int):aS Tryd.prog LT 25 [.c (vi n)] (.one (.c (vs (al n)) 1)):=by
 refine aS.intro' an LT.stay Tryd.func25 (by kernel_rfl) rfl rfl rfl (Nat.le_of_ble_eq_true rfl) (λw0 base hE=>?_);simp;refine ac.pure (dr n 0 1000000000) (by simp) ?_;by_cases h:0<=n/\n<=1000000000
 ·have e:Lib.itoa n=al n:=by unfold Lib.itoa al;rw [if_neg (by omega),if_pos h]
  simp [h];refine aK hE (uO n (by omega) (by omega)) (by simp) ?_;simp [e]
 ·have e:al n=[]:=by unfold al;rw [if_neg h]
  simp [h,e];rfl
theorem LT.below {w w':World} (h:Below w.heap.size w w') (hL:LT w):LT w':=LT.stay w w' ⟨h.os,h.tape,h.output,h.size,h.block⟩ hL
set_option maxRecDepth 20000
set_option maxHeartbeats 6400000
attribute [local simp] fv dL bj dK dt
theorem rN {l:List (List UInt8)} {B:Nat} (h:∀ w∈l,w.length<=B):Lib.lens l<=B*l.length:=by
 induction l with
 |nil=>simp [Lib.lens]
 | cons x l ih =>
   have h1:=h x (by simp);have h2:=ih λw hw=>h w (by simp [hw])
   have e:Lib.lens (x::l)=x.length+Lib.lens l:=by simp [Lib.lens]
   rw [e,List.length_cons,Nat.mul_succ];omega
theorem jo {l:List (List UInt8)} {B:Nat} {c:UInt8} (h:∀ w∈l,w.length<=B):(Lib.join l [c]).length<=(B+1)*l.length:=by
 cases l with
 |nil=>simp [Lib.join_nil]
 | cons x l =>
   rw [Lib.join_length];have:=rN h;rw [Nat.add_mul];simp at this ⊢;omega
theorem aW (n:Int):(al n).length<=10:=by
 unfold al
 split
 ·exact lU 9 _ (by omega)
 ·simp
theorem dw (l:List Int):(cQ l).length<=11*l.length:=by
 have h:=jo (l:=l.map al) (B:=10) (c:=46) (λw hw=>by obtain ⟨n,-,rfl⟩:=List.mem_map.1 hw;exact aW n)
 simpa [cQ] using h
theorem jx (l:List Int) (hl:l.length<=2 ^ 40):aS Tryd.prog LT 59 [.c (.s (l.map aM))] (.one (.c (vs (cQ l)) 1)):=by
 refine aS.intro' an LT.stay Tryd.func59 (by kernel_rfl) rfl rfl rfl (Nat.le_of_ble_eq_true rfl) (λw0 base hE=>?_);simp;refine be hE (λx:Nat×Hd=>x.1<=l.length) (λx=>⟨20,0,[(8,.v (.int .i64 x.1)),(7,.v (.int .i64 l.length)),(6,.ro (l.map aM)),(3,.sl 5000 x.2 1 0 x.1)],[(5000,.rows x.2 1 (((l.take x.1).map al).map wR) true)]⟩) (λx=>l.length - x.1) (0,none) (by simp) (by simp) (λx hx=>Ent.refl ?_);obtain ⟨i,H⟩:=x;simp only at hx ⊢;by_cases hlt:i<l.length
 ·simp [hlt]
  refine aK hE (bB l[i]) (by simp) ?_;simp;intro b;have e1:i=min i l.length:=by omega
  refine ⟨e1,by omega,λH2=>Ent.refl ⟨i+1,by omega,by omega,H2,?_⟩⟩;simp;exact ⟨aB (by omega),dR (f:=wR ∘ al) hlt⟩
 ·have e:i=l.length:=by omega
  subst e;simp;refine aK hE (pE (l.map al) 46 (by simpa using hl) (by have:=dw l;unfold cQ at this;omega)) (by simp) ?_;simp [cQ]
theorem mw {p:Part} (h:ak p):(ae p).length<=2201:=by
 have hb:=h.bounds;have h1:=aW p.n;have h2:=dw p.signs;unfold ae
 split
 ·simp;omega
 ·split<;>simp<;>omega
theorem cR (o:List Part):(aZ o).length<=2500000:=by
 unfold aZ
 split
 ·rename_i h
  split
  ·simp
  ·have h1:=(bz h).1
   have h2:=jo (l:=(aG o).map ae) (B:=2201) (c:=32) (λw hw=>by obtain ⟨p,hp,rfl⟩:=List.mem_map.1 hw;exact mw (h1.1.1 p hp));have h3:=h1.1.2;simp at h2;omega
 ·simp
end Go.Proofs.YtmfcmlldnjffeaaDoor
namespace Go.AM
open Go.RowKit
mutual
def fz (k:Nat) (H:Hd) (sz:Nat) (rs:List (List CD)):AV->AV
 | .sl k' H' sz' off len=>if k'=k then (if H'=H/\sz'=sz/\off+len<=rs.length then .ro (cut rs off len) else .any) else .sl k' H' sz' off len
 | .agg l=>.agg (fzL k H sz rs l)
 | .tup l=>.tup (fzL k H sz rs l)
 | .clo f l=>.clo f (fzL k H sz rs l)
 | .any=>.any
 | .un=>.un
 | .nil=>.nil
 | .v u=>.v u
 | .ro r=>.ro r
 | .p a b c=>.p a b c
 | .e a b c d e=>.e a b c d e
 | .rp r=>.rp r
 | .cv u n=>.cv u n
 | .ml a b c d=>.ml a b c d
 | .is u=>.is u
def fzL (k:Nat) (H:Hd) (sz:Nat) (rs:List (List CD)):List AV->List AV
 | []=>[]
 |a::l=>fz k H sz rs a::fzL k H sz rs l
end
def fzO (k:Nat) (H:Hd) (sz:Nat) (rs:List (List CD)):AObj->AObj
 | .vars b T cells=>.vars b T (fzL k H sz rs cells)
 |o=>o
def fzT (k:Nat) (H:Hd) (sz:Nat) (rs:List (List CD)) (t:List (Nat×AV)):List (Nat×AV):=t.map λp=>(p.1,fz k H sz rs p.2)
def fzH (k:Nat) (H:Hd) (sz:Nat) (rs:List (List CD)):AH->AH
 | []=>[]
 |(i,o)::h=>(i,fzO k H sz rs o)::fzH k H sz rs h
section rules
variable {k:Nat} {H:Hd} {sz:Nat} {rs:List (List CD)}
theorem r2:fzT k H sz rs []=[]:=(rfl)
theorem pT {i:Nat} {v:AV} {t:List (Nat×AV)}:fzT k H sz rs ((i,v)::t)=(i,fz k H sz rs v)::fzT k H sz rs t:=(rfl)
theorem pY {i:Nat} {o:AObj} {h:AH}:fzH k H sz rs ((i,o)::h)=(i,fzO k H sz rs o)::fzH k H sz rs h:=(rfl)
theorem r5:fzH k H sz rs []=[]:=(rfl)
theorem kK:∀ (W:bg) (i:Nat),fzH k H sz rs (bC i W)=bC i W
 | [],i=>rfl
 | q :: l, i => by
   have e:∀ xs:List Value,fzL k H sz rs (xs.map .is)=xs.map .is:=by
    intro xs
    induction xs with
    |nil=>rfl
    |cons x xs ih=>simp [fzL,fz,ih]
   simp [bC,fzH,phO,fzO,e,kK l]
theorem r4 {W:bg}:fzH k H sz rs (phs W)=phs W:=kK W _
theorem pU {b:Nat} {T:TypeId} {l:List AV}:fzO k H sz rs (.vars b T l)=.vars b T (fzL k H sz rs l):=(rfl)
theorem pV {H':Hd} {sz':Nat} {r:List (List CD)} {own:Bool}:fzO k H sz rs (.rows H' sz' r own)=.rows H' sz' r own:=(rfl)
theorem pW:fzO k H sz rs .dead=.dead:=(rfl)
theorem r3:fzL k H sz rs []=[]:=by simp [fzL]
theorem pX {a:AV} {l:List AV}:fzL k H sz rs (a::l)=fz k H sz rs a::fzL k H sz rs l:=by rw [fzL]
theorem Ah {u:Value}:fz k H sz rs (.v u)=.v u:=by rw [fz]
theorem u1:fz k H sz rs .any=.any:=by rw [fz]
theorem xT:fz k H sz rs .un=.un:=by rw [fz]
theorem uY:fz k H sz rs .nil=.nil:=by rw [fz]
theorem xW {r:List (List CD)}:fz k H sz rs (.ro r)=.ro r:=by rw [fz]
theorem xV {r:List CD}:fz k H sz rs (.rp r)=.rp r:=by rw [fz]
theorem xY {u:Value} {n:Nat}:fz k H sz rs (.cv u n)=.cv u n:=by rw [fz]
theorem xX {a c d:Nat} {b:Hd}:fz k H sz rs (.ml a b c d)=.ml a b c d:=by rw [fz]
theorem Ai {a b c:Nat}:fz k H sz rs (.p a b c)=.p a b c:=by rw [fz]
theorem Aj {a c d e:Nat} {b:Hd}:fz k H sz rs (.e a b c d e)=.e a b c d e:=by rw [fz]
theorem u2 {l:List AV}:fz k H sz rs (.agg l)=.agg (fzL k H sz rs l):=by rw [fz]
theorem uX {l:List AV}:fz k H sz rs (.tup l)=.tup (fzL k H sz rs l):=by rw [fz]
theorem uZ {f:Nat} {l:List AV}:fz k H sz rs (.clo f l)=.clo f (fzL k H sz rs l):=by rw [fz]
theorem xU {k' sz' off len:Nat} {H':Hd}:fz k H sz rs (.sl k' H' sz' off len)=if k'=k then (if H'=H/\sz'=sz/\off+len<=rs.length then .ro (cut rs off len) else .any) else .sl k' H' sz' off len:=by rw [fz]
end rules
attribute [simp] r2 pT pY r5 r4 pU pV pW r3 pX Ah u1 xT uY xW xV xY xX Ai Aj u2 uX uZ xU
open Go.RowKit
theorem aV.ent {E:Env} {body:Code} {Q:Exit->ASt->Prop} {st:ASt} (h:Ent E st (aV E body Q)):aV E body Q st:=λa w hR=>by
 obtain ⟨st',h1,h2⟩:=h a w hR;exact h1 a w h2
end Go.AM
namespace Go.Proofs.YtmfcmlldnjffeaaDoor
open Go.AM
set_option maxRecDepth 20000
set_option maxHeartbeats 6400000
attribute [local simp] fv dL bj dK dt
theorem fg {o:List Part} (h:ca o) (h0:aG o=[]):aZ o=[45]:=by unfold aZ;rw [if_pos h,if_pos h0]
theorem fh {o:List Part} (h:ca o) (h0:aG o≠[]):aZ o=Lib.join ((aG o).map ae) [32]:=by unfold aZ;rw [if_pos h,if_neg h0]
theorem ju (o:List Part) (hl:nL ar o<=2 ^ 40):aS Tryd.prog LT 49 [.c (.s (o.map Part.row))] (.one (.c (vs (aZ o)) 1)):=by
 refine aS.intro' an LT.stay Tryd.func49 (by kernel_rfl) rfl rfl rfl (Nat.le_of_ble_eq_true rfl) (λw0 base hE=>?_);simp;refine ac.pure (gv o hl) (by simp) ?_;by_cases h:ca o
 rotate_left
 ·have e:aZ o=[]:=by unfold aZ;rw [if_neg h]
  simp [h,e]
 simp [h];refine ac.pure (jv o hl) (by simp) ?_;obtain ⟨h1,h2⟩:=bz h;have hz:=fg h;have hs:=fh h;have hle:=cR o;generalize aZ o=T at hz hs hle ⊢;have hsh:=kj (bz h);generalize aG o=q at h1 hz hs hsh ⊢;have hlen:=h1.1.2;simp;intro H;refine aV.ent (lh 10 160 (by simp;exact ⟨rfl,rfl,rfl,rfl⟩) (by simp;exact ⟨rfl,rfl⟩) (by simp) (Ent.refl ?_));simp
 refine be hE (λx:Nat×Hd=>x.1<=q.length) (λx=>⟨49,0,[(12,.v (.int .i64 x.1)),(11,.v (.int .i64 q.length)),(10,.ro (q.map Part.row)),(3,.sl 5000 x.2 1 0 x.1)],
  [(5000,.rows x.2 1 (((q.take x.1).map ae).map wR) true)]⟩) (λx=>q.length - x.1) (0,none) (by simp) (by simp) (λx hx=>Ent.refl ?_)
 obtain ⟨i,K⟩:=x;simp only at hx ⊢;by_cases hlt:i<q.length
 rotate_left
 ·have e:i=q.length:=by omega
  subst e;by_cases h0:q=[]
  ·subst h0
   simp [hz rfl]
  ·simp [h0]
   refine aK hE (pE (q.map ae) 32 (by simp;omega) (by rw [<- hs h0];omega)) (by simp) ?_;simp [hs h0]
 have hpt:=hsh q[i] (List.getElem_mem hlt);have hok:=h1.1.1 q[i] (List.getElem_mem hlt);obtain ⟨⟨k,n,s⟩,hp⟩:∃ p,q[i]=p:=⟨_,rfl⟩;have hps:ae q[i]=ae ⟨k,n,s⟩:=by rw [hp]
 rw [hp] at hpt hok;have hb:=hok.bounds;simp only at hb;simp [hlt,hp,Part.row];intro b5;have e1:i=min i q.length:=by omega
 have h10:=aW n;by_cases k1:k=1
 ·have hT:ae q[i]=107::al n:=by rw [hps,k1];simp [ae]
  simp [k1];refine aK hE (bB n) (by simp) ?_;simp;refine ⟨by omega,λb=>⟨e1,by omega,λH2=>Ent.refl ⟨i+1,by omega,by omega,H2,?_⟩⟩⟩;simp;exact ⟨aB (by omega),by rw [<- hT];exact dR (f:=wR ∘ ae) hlt⟩
 by_cases k3:k=3
 ·have hT:ae q[i]=100::al n:=by rw [hps,k3];simp [ae]
  simp [k3];refine aK hE (bB n) (by simp) ?_;simp;refine ⟨by omega,λb=>⟨e1,by omega,λH2=>Ent.refl ⟨i+1,by omega,by omega,H2,?_⟩⟩⟩;simp;exact ⟨aB (by omega),by rw [<- hT];exact dR (f:=wR ∘ ae) hlt⟩
 have k2:k=2:=by omega
 have hT:ae q[i]=112::cQ s:=by rw [hps,k2];simp [ae]
 have hsl:=dw s;simp [k2];refine aK hE (jx s (by omega)) (by simp) ?_;simp;refine ⟨by omega,λb=>⟨e1,by omega,λH2=>Ent.refl ⟨i+1,by omega,by omega,H2,?_⟩⟩⟩;simp;exact ⟨aB (by omega),by rw [<- hT];exact dR (f:=wR ∘ ae) hlt⟩
def eR (s:List UInt8):List UInt8:=s.map λx=>if x=32 then 44 else x
theorem jt (o:List Part) (hl:nL ar o<=2 ^ 40):aS Tryd.prog LT 26 [.c (.s (o.map Part.row))] (.one (.c (vs (eR (aZ o))) 1)):=by
 refine aS.intro' an LT.stay Tryd.func26 (by kernel_rfl) rfl rfl rfl (Nat.le_of_ble_eq_true rfl) (λw0 base hE=>?_);have hle:=cR o;simp;refine aK hE (ju o hl) (by simp) ?_;simp;refine aK hE (nd (aZ o) 32 44 (by decide) (by omega)) (by simp) ?_;simp [eR]
end Go.Proofs.YtmfcmlldnjffeaaDoor
namespace Go.Proofs.YtmfcmlldnjffeaaDoor
open Go.AM
set_option maxRecDepth 20000
set_option maxHeartbeats 6400000
attribute [local simp] fv dL bj dK dt
theorem eV {α:Type} {l:List α} {i:Nat} (h:i<l.length) (f:α->List UInt8) (c:UInt8) :
 Lib.join ((l.map f).take (i+1)) [c]=if i=0 then f l[i] else Lib.join ((l.map f).take i) [c]++c::f l[i]:=by
 have h':i<(l.map f).length:=by simpa using h
 rw [List.take_succ_eq_append_getElem h',nB,List.getElem_map];by_cases h0:i=0
 ·subst h0;simp
 ·rw [if_neg h0,if_neg]
  intro e;have:=congrArg List.length e;rw [List.length_take,Nat.min_eq_left (by omega)] at this;exact h0 this
theorem ez {α:Type} {l:List α} {i:Nat} (f:α->List UInt8) (c:UInt8) {B:Nat} (h:∀ a∈l,(f a).length<=B):(Lib.join ((l.map f).take i) [c]).length<=(B+1)*l.length:=by
 have h1:=jo (l:=(l.map f).take i) (B:=B) (c:=c) (λw hw=>by
  obtain ⟨a,ha,rfl⟩:=List.mem_map.1 (List.mem_of_mem_take hw);exact h a ha)
 have h2:((l.map f).take i).length<=l.length:=by simp;omega
 exact Nat.le_trans h1 (Nat.mul_le_mul_left _ h2)
theorem du (l:List Int) (hl:l.length<=2 ^ 40):ai Tryd.prog 37 [.c (.s (l.map aM))] (.one (.c (vs (cf l)) 1)):=by
 refine pci an Tryd.func37 (λw0 base=>?_);simp;refine ac.pure (dZ l hl) (by simp) ?_;by_cases h:bi l
 rotate_left
 ·have e:cf l=[]:=by unfold cf;rw [if_neg h]
  simp [h,e]
 by_cases h0:l=[]
 ·have e:cf l=[45]:=by unfold cf;rw [if_pos h,if_pos h0]
  subst h0;simp [h,e]
 have e:cf l=cQ l:=ea h h0;have hj:∀ i,(Lib.join ((l.map al).take i) [46]).length<=11*l.length:=λi=>ez al 46 (λn _=>aW n)
 simp [h,h0,e];refine be eok (λi:Nat=>i<=l.length) (λi=>⟨29,0,[(14,.v (.int .i64 i)),(13,.v (.int .i64 l.length)),(12,.ro (l.map aM)),(3,.v (.string (bs (Lib.join ((l.map al).take i) [46]))))],[]⟩) (λi=>l.length - i) 0 (by simp) (by simp [Lib.join_nil]) (λi hi=>Ent.refl ?_);by_cases hlt:i<l.length
 rotate_left
 ·have e:i=l.length:=by omega
  have ht:(l.map al).take l.length=l.map al:=List.take_of_length_le (by simp);subst e;simp [cQ,ht]
 have hn:=eV hlt al 46;have hji:=hj i;have hni:=aW l[i];by_cases hi0:i=0
 ·subst hi0
  simp [hlt];refine ac.pure (aJ l[0]) (by simp) ?_;simp [Lib.join_nil];refine ⟨by omega,Ent.refl ⟨1,by omega,by omega,?_⟩⟩;rw [if_pos rfl] at hn;simp [hn];rfl
 ·have hi1:0<i:=by omega
  rw [if_neg hi0] at hn;generalize Lib.join ((l.map al).take i) [46]=S at hn hji ⊢;simp [hlt,hi1];refine ⟨by omega,?_⟩;refine ac.pure (aJ l[i]) (by simp) ?_;simp;refine ⟨by omega,Ent.refl ⟨i+1,by omega,by omega,?_⟩⟩;simp [hn];exact aB (by omega)
theorem jb (o:List Part) (hl:nL ar o<=2 ^ 40):ai Tryd.prog 45 [.c (.s (o.map Part.row))] (.one (.c (vs (aZ o)) 1)):=by
 refine pci an Tryd.func45 (λw0 base=>?_);simp;refine ac.pure (gh o hl) (by simp) ?_;by_cases h:ca o
 rotate_left
 ·have e:aZ o=[]:=by unfold aZ;rw [if_neg h]
  simp [h,e]
 simp [h];refine ac.pure (jc o hl) (by simp) ?_;obtain ⟨h1,h2⟩:=bz h;have hz:=fg h;have hs:=fh h;have hle:=cR o;generalize aZ o=T at hz hs hle ⊢;have hsh:=kj (bz h);generalize aG o=q at h1 hz hs hsh ⊢;have hlen:=h1.1.2;simp;intro H;refine aV.ent (lh 10 160 (by simp;exact ⟨rfl,rfl,rfl,rfl⟩) (by simp;exact ⟨rfl,rfl⟩) (by simp) (Ent.refl ?_));simp;have hj:∀ i,(Lib.join ((q.map ae).take i) [32]).length<=2202*q.length:=λi=>ez ae 32 (λp hp=>mw (h1.1.1 p hp))
 refine be eok (λi:Nat=>i<=q.length) (λi=>⟨48,0,[(12,.v (.int .i64 i)),(11,.v (.int .i64 q.length)),(10,.ro (q.map Part.row)),(3,.v (.string (bs (Lib.join ((q.map ae).take i) [32]))))],[]⟩) (λi=>q.length - i) 0 (by simp) (by simp [Lib.join_nil]) (λi hx=>Ent.refl ?_)
 have hne:∀ i,0<i->i<=q.length->Lib.join ((q.map ae).take i) [32]≠[]:=λi hi hq=>by
  obtain ⟨j,rfl⟩:∃ j,i=j+1:=⟨i - 1,by omega⟩;rw [eV (show j<q.length by omega) ae 32]
  split
  ·exact rn _
  ·simp
 have hji:=hj i;by_cases hlt:i<q.length
 rotate_left
 ·have e:i=q.length:=by omega
  subst e;by_cases h0:q=[]
  ·subst h0
   simp [hz rfl,Lib.join_nil]
  ·have hn:=hne q.length (List.length_pos_iff.2 h0) (Nat.le_refl _)
   have ht:(q.map ae).take q.length=q.map ae:=List.take_of_length_le (by simp);rw [ht] at hn;simp [ht,hn,hs h0]
 have hpt:=hsh q[i] (List.getElem_mem hlt);have hok:=h1.1.1 q[i] (List.getElem_mem hlt);have hn:=eV hlt ae 32;obtain ⟨⟨k,n,s⟩,hp⟩:∃ p,q[i]=p:=⟨_,rfl⟩;rw [hp] at hpt hok hn;have hb:=hok.bounds;simp only at hb;have h10:=aW n;by_cases hi0:i=0
 ·subst hi0
  rw [if_pos rfl] at hn;simp [hlt,hp,Part.row,Lib.join_nil];intro b5;by_cases k1:k=1
  ·have hT:ae ⟨k,n,s⟩=107::al n:=by rw [k1];simp [ae]
   rw [hT] at hn;simp [k1];refine ac.pure (aJ n) (by simp) ?_;simp;refine ⟨by omega,Ent.refl ⟨1,by omega,by omega,?_⟩⟩;simp [hn];rfl
  have k23:k=2\/k=3:=by omega
  rcases k23 with k2|k3
  ·have hT:ae ⟨k,n,s⟩=112::cQ s:=by rw [k2];simp [ae]
   rw [hT] at hn;have hso:=(hpt.1.put k2).2;have hsn:=mm hpt.1 k2;have hsl:=dw s;simp only at hso hsn;simp [k2];refine ac.pure (du s (by omega)) (by simp) ?_;rw [ea hso hsn];simp;refine ⟨by omega,Ent.refl ⟨1,by omega,by omega,?_⟩⟩;simp [hn];rfl
  ·have hT:ae ⟨k,n,s⟩=100::al n:=by rw [k3];simp [ae]
   rw [hT] at hn;simp [k3];refine ac.pure (aJ n) (by simp) ?_;simp;refine ⟨by omega,Ent.refl ⟨1,by omega,by omega,?_⟩⟩;simp [hn];rfl
 ·have hn0:=hne i (by omega) hx
  rw [if_neg hi0] at hn;generalize Lib.join ((q.map ae).take i) [32]=S at hn hji hn0 ⊢;simp [hlt,hp,Part.row,hn0];intro b5;refine ⟨by omega,?_⟩;by_cases k1:k=1
  ·have hT:ae ⟨k,n,s⟩=107::al n:=by rw [k1];simp [ae]
   rw [hT] at hn;simp [k1];refine ⟨by omega,?_⟩;refine ac.pure (aJ n) (by simp) ?_;simp;refine ⟨by omega,Ent.refl ⟨i+1,by omega,by omega,?_⟩⟩;simp [hn];exact aB (by omega)
  have k23:k=2\/k=3:=by omega
  rcases k23 with k2|k3
  ·have hT:ae ⟨k,n,s⟩=112::cQ s:=by rw [k2];simp [ae]
   rw [hT] at hn;have hso:=(hpt.1.put k2).2;have hsn:=mm hpt.1 k2;have hsl:=dw s;simp only at hso hsn;simp [k2];refine ⟨by omega,?_⟩;refine ac.pure (du s (by omega)) (by simp) ?_;rw [ea hso hsn];simp;refine ⟨by omega,Ent.refl ⟨i+1,by omega,by omega,?_⟩⟩;simp [hn];exact aB (by omega)
  ·have hT:ae ⟨k,n,s⟩=100::al n:=by rw [k3];simp [ae]
   rw [hT] at hn;simp [k3];refine ⟨by omega,?_⟩;refine ac.pure (aJ n) (by simp) ?_;simp;refine ⟨by omega,Ent.refl ⟨i+1,by omega,by omega,?_⟩⟩;simp [hn];exact aB (by omega)
end Go.Proofs.YtmfcmlldnjffeaaDoor
namespace Go.Proofs.YtmfcmlldnjffeaaDoor
open Go.AM
set_option maxRecDepth 20000
set_option maxHeartbeats 6400000
attribute [local simp] fv dL bj dK dt
noncomputable def cT (e:Entry):List UInt8:=al e.client++58::(al e.seq++58::eR (aZ e.o))
theorem iE (o:List Part):(eR (aZ o)).length<=2500000:=by have:=cR o;simpa [eR] using this
theorem fS (e:Entry) (hl:bJ e<=2 ^ 40):aS Tryd.prog LT 9 [.agg e.row] (.one (.c (vs (cT e)) 1)):=by
 refine aS.intro' an LT.stay Tryd.func9 (by kernel_rfl) rfl rfl rfl (Nat.le_of_ble_eq_true rfl) (λw0 base hE=>?_);have h1:=aW e.client;have h2:=aW e.seq;have h3:=iE e.o;simp [Entry.row];intro b;refine aA.quiet hE mix (by kernel_rfl) ?_;simp;refine ⟨_,_,bB e.client,by simp,?_⟩;simp;refine ⟨by omega,_,_,bB e.seq,by simp,?_⟩;simp;refine ⟨by omega,by omega,_,_,jt e.o hl,by simp,?_⟩;simp;refine ⟨by omega,?_⟩;simp [cT]
end Go.Proofs.YtmfcmlldnjffeaaDoor
namespace Go.Proofs.YtmfcmlldnjffeaaDoor
open Go.AM Go.RowKit
set_option maxRecDepth 100000
set_option maxHeartbeats 4000000
def bk (w0:World) (b:Nat) (l:List UInt8) (W:World):Prop:=
 Below w0.heap.size w0 W/\w0.heap.size<=b/\∃ cs:Array Value,W.heap[b]? = some (.cells cs 5 (cs.size,cs.size+1))/\∀ (j:Nat) (h:j<l.length),cs[j]? = some (.int .u8 l[j].toNat)
theorem bk.cell {w0:World} {b:Nat} {l:List UInt8} {W:World} (h:bk w0 b l W) {j:Nat} (hj:j<l.length):W.cell? ⟨b,j,none⟩=some (.int .u8 l[j].toNat):=by
 obtain ⟨-,-,cs,hb,hc⟩:=h;unfold World.cell?;rw [hb];exact hc j hj
theorem bk.soft {w0:World} {b:Nat} {l:List UInt8} {W:World} (h:bk w0 b l W) {j:Nat} (hj:j<l.length):W.frozen? ⟨b,j,none⟩=false:=by
 obtain ⟨-,-,cs,hb,hc⟩:=h;have:=(Array.getElem?_eq_some_iff.1 (hc j hj)).1;unfold World.frozen?;rw [hb];simp;omega
theorem bk.set {w0:World} {b:Nat} {l:List UInt8} {W:World} (h:bk w0 b l W) {j:Nat} (hj:j<l.length) (x:UInt8):bk w0 b (l.set j x) (W.setCell ⟨b,j,none⟩ (.int .u8 x.toNat)):=by
 obtain ⟨h1,h2,cs,hb,hc⟩:=h;have hlt:=bb hb;refine ⟨h1.trans ⟨rfl,rfl,rfl,by simp [World.setCell],λk hk=>?_⟩,h2,cs.setIfInBounds j (.int .u8 x.toNat),?_,λi hi=>?_⟩
 ·have:b≠k:=by have:=h1.size;omega
  simp [World.setCell,Array.getElem?_modify,this]
 ·simp [World.setCell,Array.getElem?_modify,hb]
 ·rw [List.length_set] at hi
  rw [Array.getElem?_setIfInBounds];by_cases e:j=i
  ·subst e
   have:=(Array.getElem?_eq_some_iff.1 (hc j hj)).1;simp [this]
  ·rw [if_neg e,hc i hi,List.getElem_set_ne e]
theorem li {w0 w1:World} (h:Below w0.heap.size w0 w1) (l:List UInt8):bk w0 w1.heap.size l (Lib.bytesWorld w1 5 (bs l)):=by
 refine ⟨h.trans ((Lib.bytesWorld_below w1 _ _).mono h.size),h.size,_,Lib.bytesWorld_at_new w1 _ _,λj hj=>?_⟩;unfold Lib.bytesCells;rw [Array.getElem?_append_left (by simpa [bs] using hj)];simp [bs,hj]
theorem bk.text {w0:World} {b:Nat} {l:List UInt8} {W:World} (h:bk w0 b l W) (hl:l.length<=2 ^ 40) (c:Nat) {s d e:TypeId} (hs:Tryd.prog.underlying s=some (.slice e)) (he:Tryd.prog.underlying e=some (.int .u8)) (hd:Tryd.prog.underlying d=some .string) :
 (convert s d (.slice (some ⟨b,0,none⟩) l.length c)).run Tryd.prog W=.ok (.string (bs l)) W:=by
 rw [run_convert_bytes_string W s d e _ _ _ hs he hd];obtain ⟨-,-,cs,hb,hc⟩:=h
 have hr:Rd W false (λ_=>True) (.slice (some ⟨b,0,none⟩) (l.map aD).length (l.map aD).length) (.s (l.map aD)):=by
  refine .slice b 0 _ 1 cs _ _ _ (λ_ _ _=>False) (Nat.le_refl _) (by rw [List.length_map];unfold maxLen;omega) (by omega) trivial hb ?_ (λh=>by cases h) (λ_ _ _ h=>h.elim) (λh=>by cases h) (by simp [aD]) ?_
  ·cases hn:l.length with
   |zero=>simp [hn]
   | succ n =>
     have:=(Array.getElem?_eq_some_iff.1 (hc n (by omega))).1;simp [hn];omega
  ·intro i j row x hi hj
   rw [List.getElem?_map] at hi
   cases hx:l[i]? with
   |none=>rw [hx] at hi;cases hi
   | some y =>
     rw [hx] at hi
     cases hi
     obtain ⟨hil,rfl⟩:=List.getElem?_eq_some_iff.1 hx
     match j,hj with
     | 0, hj =>
       cases hj
       have h1:=hc i hil;have e3:0+(i*1+0)=i:=by omega
       rw [e3,Array.getD_eq_getD_getElem?,h1];exact .plain rfl
 have:=(gF (P:=Tryd.prog) hr).1;rw [List.length_map] at this;exact this
def c7 (f:UInt8->UInt8) (l:List UInt8) (k:Nat):List UInt8:=(l.take k).map f++l.drop k
theorem gq (f:UInt8->UInt8) (l:List UInt8) (k:Nat):(c7 f l k).length=l.length:=by simp [c7];omega
theorem nm (f:UInt8->UInt8) (l:List UInt8):c7 f l 0=l:=by simp [c7]
theorem pt (f:UInt8->UInt8) (l:List UInt8):c7 f l l.length=l.map f:=by simp [c7]
theorem mG (f:UInt8->UInt8) {l:List UInt8} {k:Nat} (h:k<l.length) (h':k<(c7 f l k).length):(c7 f l k)[k]'h'=l[k]:=by
 have hA:((l.take k).map f).length=k:=by simp;omega
 have e:(c7 f l k)[k]? = l[k]?:=by
  unfold c7;rw [List.getElem?_append_right (by omega),hA,Nat.sub_self,List.getElem?_drop,Nat.add_zero]
 rw [List.getElem?_eq_getElem h',List.getElem?_eq_getElem h] at e;exact Option.some.inj e
theorem kp (f:UInt8->UInt8) {l:List UInt8} {k:Nat} (h:k<l.length):(c7 f l k).set k (f l[k])=c7 f l (k+1):=by
 have hA:((l.take k).map f).length=k:=by simp;omega
 unfold c7;rw [List.set_append_right _ _ (by omega),hA,Nat.sub_self,List.drop_eq_getElem_cons h,List.set_cons_zero,List.take_succ_eq_append_getElem h,List.map_append,List.append_assoc];rfl
theorem nn (f:UInt8->UInt8) {l:List UInt8} {k:Nat} (h:k<l.length) (e:f l[k]=l[k]):c7 f l (k+1)=c7 f l k:=by
 rw [<- kp f h,e];have h':k<(c7 f l k).length:=by rw [gq];exact h
 have e2:=List.set_getElem_self h'
 rwa [mG f h] at e2
def cA (x:UInt8):UInt8:=if x=32 then 44 else x
theorem rS (o:Value) (l:List UInt8) (w:World) (hl:l.length<=2 ^ 40)
 (A:Calls Tryd.prog 45 #[o] w λe w'=>e=.returned (.string (bs l))/\Below w.heap.size w w') :
 Calls Tryd.prog 23 #[o] w λe w'=>e=.returned (.string (bs (l.map cA)))/\Below w.heap.size w w':=by
 have mixed:Tryd.prog.follows .mixedOrders=true:=by kernel_rfl
 go_enter Tryd.func23,Tryd.ntmps23
 go_wp2_with (go_at_call 45;refine A.mono ?_;rintro e w1 ⟨rfl,h1⟩)
 have hcv:=Lib.run_convert_string_bytes (P:=Tryd.prog) w1 9 71 5 (bs l) (u:=.string) Tryd.underlying9 Tryd.underlying71 Tryd.underlying5;have hB0:Hid (bk w w1.heap.size (c7 cA l 0) (Lib.bytesWorld w1 5 (bs l))):=by rw [nm];exact li h1 l
 rw [bj] at hcv;generalize Lib.bytesWorld w1 5 (bs l)=w2 at hcv hB0;generalize grownCap w1 l.length 0 5=C at hcv;generalize w1.heap.size=b at hcv hB0
 clear h1 A
 obtain ⟨n,hn⟩:∃ n,n=l.length:=⟨_,rfl⟩;rw [<- hn] at hcv;have HN:=Lib.hid hn
 clear hn
 rw [hcv]
 clear hcv
 go_wp2
 have hnl:n<=l.length:=by have:=HN.out;omega
 have hnl2:l.length<=n:=by have:=HN.out;omega
 go_loopw [11] (λvi wr=>∃ k:Nat,vi=.int .i64 k/\k<=n/\Hid (bk w b (c7 cA l k) wr)) (λvi _=>n - (intOf vi).toNat)
 case atStart=>exact ⟨0,rfl,Nat.zero_le _,hB0⟩
 case round=>
  obtain ⟨k,rfl,hk,hb⟩:=hrel
  clear hB0
  by_cases hkn:k<n
  ·have hkl:k<l.length:=by omega
   have hkm:k<(c7 cA l k).length:=by rw [gq];exact hkl
   have hc:=hb.out.cell hkm;have hf:=hb.out.soft hkm;rw [mG cA hkl hkm] at hc;by_cases h32:l[k]=32
   ·rw [h32] at hc
    have H32:=Lib.hid h32
    clear h32 hkm
    go_wp2
    refine ⟨⟨k+1,by simp,hkn,?_⟩,by simp [intOf];omega⟩;have e:cA l[k]=44:=by unfold cA;rw [if_pos H32.out]
    have h2:=hb.out.set (by rw [gq];exact hkl) (44:UInt8);have h3:=kp cA hkl;rw [e] at h3;rw [h3] at h2;exact h2
   ·have e:cA l[k]=l[k]:=by unfold cA;rw [if_neg h32]
    have h3:=Lib.hid (nn cA hkl e)
    clear e
    have hd:¬ (l[k].toNat:Int)=32:=λh=>h32 (UInt8.toNat_inj.1 (by simpa using Int.ofNat.inj h))
    clear h32 hkm
    generalize l[k]=c at hc hd
    go_wp2
    refine ⟨⟨k+1,by simp,hkn,?_⟩,by simp [intOf];omega⟩;have:=hb.out;rw [<- h3.out] at this;exact this
  ·have hkn':k=n:=by omega
   subst hkn';have hB:=hb.out;rw [HN.out,pt] at hB;have ht:=hB.text (by rw [List.length_map];exact hl) C Tryd.underlying71 Tryd.underlying5 Tryd.underlying9;rw [List.length_map,<- HN.out] at ht;have HB:=Lib.hid hB
   clear hB
   go_wp2
   go_ret
   exact ⟨rfl,HB.out.1⟩
theorem j3 (o:List Part) (hl:nL ar o<=2 ^ 40):ai Tryd.prog 23 [.c (.s (o.map Part.row))] (.one (.c (vs (eR (aZ o))) 1)):=by
 refine ⟨⟨_,Tryd.func23,by kernel_rfl,by kernel_rfl⟩,λw _ xs hxs hargs=>?_⟩;obtain ⟨a,rfl⟩:=yb hxs;have hle:=cR o;refine (rS a (aZ o) w (by omega) (((jb o hl).2 w trivial #[a] rfl hargs).mono ?_)).mono ?_
 ·rintro e w' ⟨v,rfl,hb,hv⟩
  obtain ⟨rfl,-⟩:=hv;exact ⟨rfl,hb⟩
 ·rintro e w' ⟨rfl,hb⟩
  exact ⟨_,rfl,hb,rfl,rfl⟩
open Go.AM
set_option maxRecDepth 20000
set_option maxHeartbeats 6400000
attribute [local simp] fv dL bj dK dt wR
end Go.Proofs.YtmfcmlldnjffeaaDoor
namespace Go.Proofs.YtmfcmlldnjffeaaDoor
open Go.AM
set_option maxRecDepth 20000
set_option maxHeartbeats 6400000
attribute [local simp] fv dL bj dK dt
theorem fM (e:Entry) (hl:bJ e<=2 ^ 40):ai Tryd.prog 7 [.agg e.row] (.one (.c (vs (cT e)) 1)):=by
 refine pci an Tryd.func7 (λw0 base=>?_);have h1:=aW e.client;have h2:=aW e.seq;have h3:=iE e.o;simp [Entry.row];intro b;refine aA.quiet eok mix (by kernel_rfl) ?_;simp;refine ⟨_,_,aJ e.client,by simp,?_⟩;simp;refine ⟨by omega,_,_,aJ e.seq,by simp,?_⟩;simp;refine ⟨by omega,by omega,_,_,j3 e.o hl,by simp,?_⟩;simp;refine ⟨by omega,?_⟩;simp [cT]
end Go.Proofs.YtmfcmlldnjffeaaDoor
namespace Go.Proofs.YtmfcmlldnjffeaaDoor
open Go.AM
set_option maxRecDepth 20000
set_option maxHeartbeats 6400000
attribute [local simp] fv dL bj dK dt
end Go.Proofs.YtmfcmlldnjffeaaDoor
namespace Go.Proofs.YtmfcmlldnjffeaaDoor
open Go.AM
set_option maxRecDepth 20000
noncomputable def ef (e:Entry):ByteArray:=bs (cT e)
theorem fL (e:Entry) (_:e.fits) (n:bJ e<=2 ^ 20):ai Tryd.prog 7 [.agg e.row] (.one (.c (.v (.string (ef e))) 1)):=fM e (by omega)
theorem fT (e:Entry) (_:e.fits) (n:bJ e<=2 ^ 20):aS Tryd.prog LT 9 [.agg e.row] (.one (.c (.v (.string (ef e))) 1)):=fS e (by omega)
open Go.AM Go.ChangeShapes Go.WideShapes Go.ChangeAt Go.RowKit
theorem oZ {H:Type} {enc:TypeId×Value->H} {a:Assume} {C:Checked} {os:Os} {f:FuncId} {fn:Func} {s:ChangeSpec} {conds:List PathCond} {apart fresh handsOn again:Bool} {X:World->Array Value->Prop}
 (hX:∀ (w w':World) (args:Array Value),w.heap=w'.heap->X w args->X w' args)
 (own:ownKnob C.prog.godebug=none) (started:os.Started) (noInit:C.prog.inits.idxOf? f=none) (hfn:C.prog.funcs[f]? = some fn)
 (witness:∃ (w:World) (tape:Tape) (i:Input),w.os=os /\ (w.forCall tape i).Shaped C.prog /\ i.vars=[] /\ Input.okWide C.prog (w.forCall tape i) .any w.heap.size f i /\
  ((s.pre enc C.prog fn conds apart (w.forCall tape i).memory i.args/\X (w.forCall tape i).memory i.args)/\sizedMet enc C.prog fn (OpenSpec.ofChange s) apart (w.forCall tape i).memory i.args)/\a.holds C.prog (lone (Frame.enter C.prog f i.args .normal) [] (w.forCall tape i)))
 (contract:∀ (W:World) (base:Nat) (args:Array Value) (ds gs:List (DataW H)) (before:List MemPlace),
  (∀ (j:Nat) t v,fn.params[j]? = some t -> args[j]? = some v -> Value.okWide C.prog W .any base t v) ->
  DataW.Whole enc C.prog fn.params.toList s.vars apart W args.toList ds gs before -> X W args -> W.ShapedOpen C.prog ->
  Calls C.prog f args W λe W'=>∃ v,e=.returned v/\s.post enc C.prog fn apart fresh handsOn again W args v W') :
 ReturnsInHanded a C os f .any (λw args=>(s.pre enc C.prog fn conds apart w args/\X w args)/\sizedMet enc C.prog fn (OpenSpec.ofChange s) apart w args) (s.post enc C.prog fn apart fresh handsOn again):=by
 refine returnsInHanded_of_calls own started noInit witness ?_;intro w tape i _ hsh _ hok hpre hholds;obtain ⟨_,_,_,fn',hfn',_,_,_,_,hval⟩:=hok;have e:fn'=fn:=Option.some.inj (hfn'.symm.trans hfn);subst e;obtain ⟨⟨⟨ds,gs,before,hw,hc⟩,hx⟩,hz⟩:=hpre;have hw':=DataW.Whole.of_heap (w':=w.forCall tape i) (by rfl) hw;refine (contract (w.forCall tape i) w.heap.size i.args ds gs before hval hw' (hX _ _ _ (by rfl) hx) hsh).mono λe W' ⟨v,he,hp⟩=>?_
 subst he;exact ChangeSpec.post_blind hp
theorem rk : Tryd.prog.globalNamed "internal/strconv.uint64pow10" = some 0 := by kernel_rfl
theorem rj:(Tryd.prog.globals[0]?).map (·.type)=some 119:=by kernel_rfl
theorem xA {a b : String × DataW Unit} {r : List (String × DataW Unit)} {W : World} (h : laidMet Tryd.prog (a :: b :: ("internal/strconv.uint64pow10", Lib.tabData .u64 Lib.pow10Tab) :: r) W) (hsh : W.ShapedOpen Tryd.prog) (he : qM W) : LT W :=
 ⟨Lib.tabIs_of_head (t:=119) (e:=109) (n:=20) rk rj (by kernel_rfl) (by kernel_rfl) (by kernel_rfl) (by kernel_rfl) h.tail.tail,cell_of_shapedOpen_int (zero:=#[.int .i64 0]) (t:=3) hsh (of_decide_eq_true (by kernel_rfl)) (by kernel_rfl) rfl (by kernel_rfl) (by kernel_rfl) Tryd.underlying3,he⟩
theorem rM {l:List (String×DataW Unit)} {os:Os} (args:Array Value) (hp:(l.all λx=>x.2.handleName?.isNone)=true)
 (hf:(World.holding Tryd.prog os ⟨#[],#[],[]⟩).layFits Tryd.prog l []=true) (hi:(World.holding Tryd.prog os ⟨#[],#[],[]⟩).layIfaces Tryd.prog l (World.laidAll Tryd.prog os l)=true) :
 laidMetH Tryd.prog l ((World.laidAll Tryd.prog os l).forCall (λ_ _=>0) ⟨#[],args,[]⟩).memory:=by
 rw [MakeChecks.laidMetH_plain _ _ _ hp];exact laidMet_laidAll args hf hi
end Go.Proofs.YtmfcmlldnjffeaaDoor
