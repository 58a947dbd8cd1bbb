import Derived.Test.YtmfcmlldnjffeaaDoorPA
import Derived.Test.YtmfcmlldnjffeaaDoorPB
import Derived.Lib.AtoiAllCases
import Derived.Lib.AppendIntMem
import Derived.WalkKit
import Derived.BigCall
import Derived.Test.YtmfcmlldnjffeaaDoorMF
import Derived.Lib.AtoiErrMem
import Derived.Lib.ConvBytes
import Derived.Lib.Hide
import Derived.LaidMore
import Derived.Lay
import Derived.HandedShaped
import Derived.Stop.LaidErr
import Derived.MakeChecks
import Derived.SevenTiedAt
import Derived.Lib.LaidTab
import Derived.Shelf.Vars
namespace Go.Proofs.YtmfcmlldnjffeaaDoor
open Go.AM
set_option maxRecDepth 20000
def chn (L:List Part):Prop:=∀ i,∀ h:i+1<L.length,L[i].kind≠L[i+1].kind
theorem m7:chn []:=λi h=>by simp at h
theorem qv {p:Part} {L:List Part} (h:chn (p::L)):chn L/\∀ h0:0<L.length,p.kind≠L[0].kind:=by
 refine ⟨λi hi=>?_,λh0=>?_⟩
 ·have:=h (i+1) (by simp;omega)
  simpa using this
 ·have:=h 0 (by simp;omega)
  simpa using this
theorem dS {L:List Part} {p:Part} (h:chn L) (hp:∀ h:0<L.length,(L[L.length - 1]'(by omega)).kind≠p.kind):chn (L++[p]):=by
 intro i hi;simp at hi;by_cases c:i+1<L.length
 ·rw [List.getElem_append_left (by omega),List.getElem_append_left c];exact h i c
 ·have h0:0<L.length:=by omega
  have:=hp h0;rw [List.getElem_append_left (by omega),List.getElem_append_right (by omega)];have e:i=L.length - 1:=by omega
  subst e
  simpa using this
theorem sw {L:List Part} {i:Nat} {p:Part} (h:chn L) (hi:i<L.length) (hk:p.kind=L[i].kind):chn (L.set i p):=by
 intro j hj;simp at hj;have h1:=h j hj;rw [List.getElem_set,List.getElem_set]
 split
 ·rename_i e;subst e
  rw [if_neg (by omega),hk];exact h1
 ·split
  ·rename_i e;subst e;rw [hk];exact h1
  ·exact h1
def pM (L:List Part):Prop:=∀ h:0<L.length,(L[L.length - 1]'(by omega)).kind=1
theorem gE {L:List Part} {p:Part}:(((L++[p])[(L++[p]).length - 1]'(by simp))).kind=p.kind:=by simp
theorem iX {L:List Part} {P:List Int} {D:Int} (h:chn L) (hl:pM L):chn (ag L P D):=by
 unfold ag
 split
 ·split
  ·rw [List.nil_append]
   exact dS h λh0=>by rw [hl h0];simp
  ·simpa using h
 ·have h1:chn (L++[⟨2,0,P⟩]):=dS h λh0=>by rw [hl h0];simp
  split
  ·rw [<- List.append_assoc]
   exact dS h1 λh0=>by rw [gE];simp
  ·simpa using h1
theorem pP {L:List Part} {n:Int} (h:chn L):chn (aK L n)/\pM (aK L n):=by
 unfold aK
 split
 ·rename_i h0
  split
  ·rename_i hk
   refine ⟨sw h (by omega) hk.symm,λh1=>?_⟩;simp
  ·rename_i hk
   refine ⟨dS h λ_=>hk,λh1=>?_⟩;rw [gE]
 ·exact ⟨dS (L:=[]) m7 (λh=>by simp at h),λ_=>rfl⟩
theorem iS (o:List Part):∀ (i:Nat),i<=o.length->chn (ao (o.take i)).1/\pM (ao (o.take i)).1
 | 0, _ => by
   simp only [ao,List.take_zero,List.foldl_nil];exact ⟨m7,λh=>by simp at h⟩
 | i + 1, hi => by
   obtain ⟨h1,h2⟩:=iS o i (by omega);rw [cd (show i<o.length by omega)];generalize ao (o.take i)=s at h1 h2;unfold br
   split
   ·exact ⟨h1,h2⟩
   ·split
    ·exact ⟨h1,h2⟩
    ·split
     ·exact pP (iX h1 h2)
     ·exact ⟨h1,h2⟩
theorem lK (o:List Part):chn (normal o):=by
 obtain ⟨h1,h2⟩:=iS o o.length (Nat.le_refl _);rw [List.take_length] at h1 h2;exact iX h1 h2
def il:At->List Part->List Part
 | .k,[]=>[⟨1,1,[]⟩]
 | .k,p::l=>if p.kind=1 then ⟨1,p.n+1,[]⟩::l else ⟨1,1,[]⟩::p::l
 | .d,[]=>[⟨3,1,[]⟩]
 | .d,p::l=>if p.kind=3 then ⟨3,p.n+1,[]⟩::l else ⟨3,1,[]⟩::p::l
 | .p c,[]=>[⟨2,0,[c]⟩]
 | .p c,p::l=>if p.kind=2 then ⟨2,0,c::p.signs⟩::l else ⟨2,0,[c]⟩::p::l
def grp (l:List At):List Part:=l.foldr il []
theorem p5 {L:List Part} (h:∀ h0:0<L.length,L[0].kind≠1):∀ n:Nat,(List.replicate (n+1) At.k).foldr il L=⟨1,(n:Int)+1,[]⟩::L
 | 0 => by
   cases L with
   |nil=>rfl
   |cons p l=>have:=h (by simp);simp at this;simp [il,this]
 | n + 1 => by
   rw [List.replicate_succ,List.foldr_cons,p5 h n];simp [il]
theorem p6 {L:List Part} (h:∀ h0:0<L.length,L[0].kind≠3):∀ n:Nat,(List.replicate (n+1) At.d).foldr il L=⟨3,(n:Int)+1,[]⟩::L
 | 0 => by
   cases L with
   |nil=>rfl
   |cons p l=>have:=h (by simp);simp at this;simp [il,this]
 | n + 1 => by
   rw [List.replicate_succ,List.foldr_cons,p6 h n];simp [il]
theorem p4 {L:List Part} (h:∀ h0:0<L.length,L[0].kind≠2):∀ (Q:List Int) (c:Int),((c::Q).map At.p).foldr il L=⟨2,0,c::Q⟩::L
 | [], c => by
   cases L with
   |nil=>rfl
   |cons p l=>have:=h (by simp);simp at this;simp [il,this]
 | d :: Q, c => by
   rw [List.map_cons,List.foldr_cons,p4 h Q d];simp [il]
theorem iW:∀ {L:List Part},(∀ q∈L,Shp q)->chn L->grp (aw L)=L
 | [],_,_=>rfl
 | p :: L, hs, hc => by
   obtain ⟨h1,h2⟩:=qv hc;have ih:=iW (λq hq=>hs q (List.mem_cons_of_mem _ hq)) h1;have hp:=hs p (List.mem_cons_self ..);unfold grp at ih ⊢;rw [aw,List.foldr_append,ih];have hpos:=hp.pos;have hn:=hp.n;unfold ats;obtain ⟨kd,n,sg⟩:=p;by_cases k2:kd=2
   ·subst k2
    obtain ⟨e1,-⟩:=hp.put rfl;simp only at e1;subst e1;simp only [if_true]
    cases sg with
    |nil=>simp [psz] at hpos
    |cons c Q=>exact p4 (λh0=>by have:=h2 h0;simpa using this.symm) Q c
   ·have e1:=hp.run k2
    simp only at e1 hn;subst e1;have hz:psz ⟨kd,n,[]⟩=n.toNat:=by simp [psz]
    rw [hz] at hpos;obtain ⟨m,hm⟩:∃ m,n.toNat=m+1:=⟨n.toNat - 1,by omega⟩;have hnm:n=(m:Int)+1:=by omega
    rw [hz,hm,if_neg k2];by_cases k3:kd=3
    ·subst k3
     simp only [if_true];rw [p6 (λh0=>by have:=h2 h0;simpa using this.symm),hnm]
    ·have k1:kd=1:=by rcases hp.k with h|h|h<;>simp only at h<;>omega
     subst k1;rw [if_neg (by simp),p5 (λh0=>by have:=h2 h0;simpa using this.symm),hnm]
theorem mO:∀ (l:List At) (P:List Int) (n:Nat),nA [] 0 (nA P n l)=nA P n l
 | [], P, n => by
   have h2:=mQ n P 0 [];rw [List.append_nil,Nat.zero_add] at h2;rw [nA,mN,List.nil_append,h2,nA]
 | .k :: l, P, n => by
   rw [nA,mN,mQ,List.nil_append,Nat.zero_add,nA,mO l]
 | .p c::l,P,n=>by rw [nA,mO l]
 | .d::l,P,n=>by rw [nA,mO l]
theorem gx {o:List Part} (h:∀ p∈o,al p):normal o=grp (eD (aw o)):=by
 rw [<- d6 h,iW (eo h) (lK o)]
theorem ie {o:List Part} (h:bP o):normal (normal o)=normal o:=by
 have h2:=(iQ h).1;rw [gx h2.1.1,d6 h.1.1,gx h.1.1];unfold eD;rw [mO]
theorem ii {o:List Part} (h:bP o):lT (normal o):=by
 have h2:=(iQ h).1;refine ⟨h2,?_⟩;unfold aI;rw [if_pos h2,ie h]
theorem bE {o:List Part} (h:bP o):lT (aI o):=by
 have e:aI o=normal o:=by unfold aI;rw [if_pos h]
 rw [e];exact ii h
theorem l5:∀ (k m:Nat),m<10 ^ (k+1)->(Lib.decDigits m).length<=k+1:=by
 intro k
 induction k with
 |zero=>intro m h;rw [gj (by omega)];simp
 | succ k ih =>
   intro m h;by_cases h9:m<10
   ·rw [gj h9];simp
   ·rw [gK h9]
    have:=ih (m / 10) (by rw [Nat.pow_succ] at h;omega);simp;omega
def cV (l:List Int):List UInt8:=Lib.join (l.map ak) [46]
open Classical in
noncomputable def ci (l:List Int):List UInt8:=if bk l then (if l=[] then [45] else cV l) else []
def ae (p:Part):List UInt8:=if p.kind=1 then 107::ak p.n else if p.kind=2 then 112::cV p.signs else 100::ak p.n
open Classical in
noncomputable def aU (o:List Part):List UInt8:=if bP o then (if aI o=[] then [45] else Lib.join ((aI o).map ae) [32]) else []
theorem kx {o:List Part} (h:lT o):∀ p∈o,Shp p/\p.n<=200:=by
 have e:aI o=normal o:=by unfold aI;rw [if_pos h.1]
 intro p hp;have h1:=h.1.1.1 p hp;refine ⟨?_,h1.bounds.2.2.1⟩;rw [<- h.2,e] at hp;exact eo h.1.1.1 p hp
theorem mz {p:Part} (h:Shp p) (h2:p.kind=2):p.signs≠[]:=λe=>by
 have:=h.pos;have h0:=(h.put h2).1;unfold psz at this;simp [e,h0] at this
theorem el {l:List Int} (h:bk l) (hl:l≠[]):ci l=cV l:=by unfold ci;rw [if_pos h,if_neg hl]
theorem rE (p:Part):ae p≠[]:=by unfold ae;(repeat' split)<;>simp
open Go.AM Go.RowKit
def qZ (_:World):Prop:=True
def LT (w:World):Prop:=
 Lib.TabIs Tryd.prog w "internal/strconv.uint64pow10" .u64 Lib.pow10Tab ∧ (∃ m, w.cell? ⟨1, 0, none⟩ = some (.int .i64 m)) ∧ qZ w
theorem n7 {w w':World} (h:BelowF (λc=>c<w.heap.size) w w') {a:Addr} {v:Value} (hc:w.cell? a=some v):w'.cell? a=some v:=by
 unfold World.cell? at hc ⊢
 cases hb:w.heap[a.block]? with
 |none=>rw [hb] at hc;cases hc
 |some o=>rw [h.block _ (bd hb),hb];rw [hb] at hc;exact hc
theorem oL {P:Program} {w w':World} (h:BelowF (λc=>c<w.heap.size) w w') {n:String} {cs:Array Value} (hc:w.var? P n=some cs):w'.var? P n=some cs:=by
 unfold World.var? at hc ⊢
 cases hg:P.globalNamed n with
 |none=>rw [hg] at hc;cases hc
 | some g =>
   rw [hg] at hc;simp only [Option.bind_some] at hc ⊢
   cases hb:w.heap[g]? with
   |none=>rw [hb] at hc;cases hc
   |some o=>rw [h.block _ (bd hb),hb];rw [hb] at hc;exact hc
theorem qZ.stay:LSt qZ:=λ_ _ _ _=>trivial
theorem LT.stay:LSt LT:=λw w' h ⟨h1,⟨m,h2⟩,h3⟩=>⟨oL h h1,⟨m,n7 h h2⟩,qZ.stay w w' h h3⟩
theorem yq {xs:Array Value} (h:xs.size=1):∃ a,xs = #[a]:=by
 obtain ⟨l⟩:=xs
 match l,h with
 | [a],_=>exact ⟨a,rfl⟩
theorem AF {xs:Array Value} (h:xs.size=2):∃ a b,xs = #[a,b]:=by
 obtain ⟨l⟩:=xs
 match l,h with
 | [a,b],_=>exact ⟨a,b,rfl⟩
theorem AE {xs:Array Value} (h:xs.size=3):∃ a b c,xs = #[a,b,c]:=by
 obtain ⟨l⟩:=xs
 match l,h with
 | [a,b,c],_=>exact ⟨a,b,c,rfl⟩
theorem pi {w:World} {v u:Value} (h:RdV w v (.c (.v u))):v=u:=by cases h;rfl
theorem kN (c:UInt8):∀ (a b:List UInt8),c ∉ a->Lib.index (a++c::b) [c]=(a.length:Int)
 | [],b,_=>by simp [Lib.index,List.isPrefixOf]
 | x :: a, b, h => by
   have hx:c≠x:=λe=>h (by simp [e])
   have ih:=kN c a b (λe=>h (by simp [e]));have hp:([c]:List UInt8).isPrefixOf (x::(a++c::b))=false:=by simp [List.isPrefixOf,hx]
   rw [List.cons_append,Lib.index,hp,ih];have hn:¬ (((a.length:Int) == -1)=true):=by rw [beq_iff_eq];omega
   simp only [Bool.false_eq_true,if_false,if_neg hn,List.length_cons];omega
theorem ql (c:UInt8) (l:List UInt8) (h:c∈l):∃ a b,l=a++c::b/\c ∉ a:=by
 induction l with
 |nil=>simp at h
 | cons x l ih =>
   by_cases hx:x=c
   ·exact ⟨[],l,by simp [hx],by simp⟩
   ·obtain ⟨a,b,h1,h2⟩:=ih (by rcases List.mem_cons.1 h with h|h;exact absurd h.symm hx;exact h)
    exact ⟨x::a,b,by simp [h1],λe=>by rcases List.mem_cons.1 e with e|e;exact hx e.symm;exact h2 e⟩
theorem jq (c d:UInt8):∀ (n:Nat) (l:List UInt8),l.length<=n->Lib.replaceK [c] [d] (Lib.count l [c]) l=l.map λx=>if x=c then d else x:=by
 intro n
 induction n with
 | zero =>
   intro l hl;have:l=[]:=List.length_eq_zero_iff.1 (by omega);subst this;rw [Lib.count_one];rfl
 | succ n ih =>
   intro l hl
   have hno:∀ a:List UInt8,c ∉ a->(a.map λx=>if x=c then d else x)=a:=λa ha=>by
    conv=>rhs;rw [<- List.map_id a]
    exact List.map_congr_left λx hx=>by rw [if_neg (λe=>ha (by rw [<- e];exact hx))];rfl
   by_cases hc:c∈l
   ·obtain ⟨a,b,rfl,ha⟩:=ql c l hc
    have hi:=kN c a b ha;have hd:(a++c::b).drop (a.length+1)=b:=by simp
    rw [Lib.count_hit (by simp) hi,Nat.add_comm,Lib.replaceK_hit _ _ _ _ _ hi];simp at hl;simp only [List.length_singleton,hd,ih b (by omega),List.map_append,List.map_cons,hno a ha];simp
   ·have h0:Lib.count l [c]=0:=by rw [Lib.count_one];exact List.count_eq_zero.2 hc
    rw [h0,hno l hc];rfl
theorem ko (s:List UInt8) (c d:UInt8) (h:c≠d):Lib.replaceAll s [c] [d]=s.map λx=>if x=c then d else x:=by
 unfold Lib.replaceAll Lib.replace;have hn:¬ (([c]:List UInt8) == [d])=true:=by rw [beq_iff_eq];simpa using h
 rw [if_neg hn];exact jq c d s.length s (Nat.le_refl _)
theorem uZ (n:Int) (h0:0<=n) (h1:n<=9223372036854775807):aT Tryd.prog LT 47 [.c (vi n)] (.one (.c (vs (Lib.itoa n)) 1)):=by
 refine ⟨⟨_,Tryd.func47,by kernel_rfl,by kernel_rfl⟩,λw hL xs hxs hargs=>?_⟩;obtain ⟨a,rfl⟩:=yq hxs;obtain rfl:=pi (hargs 0 _ rfl);refine (Any.strconv_Itoa iw n (by omega) h1 w hL.1).mono ?_
 rintro e w' ⟨rfl,k,os,rfl⟩
 exact ⟨_,rfl,Lib.below_grow _ _ (Nat.le_refl _) k os,rfl,rfl⟩
theorem nr (s:List UInt8) (c d:UInt8) (hcd:c≠d) (hl:s.length<=2 ^ 31):aT Tryd.prog LT 48 [.c (vs s),.c (vs [c]),.c (vs [d])] (.one (.c (vs (s.map λx=>if x=c then d else x)) 1)):=by
 refine ⟨⟨_,Tryd.func48,by kernel_rfl,by kernel_rfl⟩,λw hL xs hxs hargs=>?_⟩;obtain ⟨a,b,f,rfl⟩:=AE hxs;obtain rfl:=pi (hargs 0 _ rfl);obtain rfl:=pi (hargs 1 _ rfl);obtain rfl:=pi (hargs 2 _ rfl);obtain ⟨m,hm⟩:=hL.2.1;have hc:=Lib.countB_le (bs [c]) (by rw [bm];simp) (bs s).size (bs s) (Nat.le_refl _);refine (Any.strings_ReplaceAll j6 dr (bs s) (bs [c]) (bs [d]) m w (by rw [bm];omega) hm (by rw [bm];simp) (by rw [bm] at hc ⊢;rw [bm];simp;omega)).mono ?_
 rintro e w' ⟨rfl,hb⟩
 refine ⟨_,rfl,hb,?_,rfl⟩;simp only [gk,ko s c d hcd];rfl
theorem pQ (l:List (List UInt8)) (c:UInt8) (hl:l.length<=2 ^ 40) (hj:(Lib.join l [c]).length<=140737488355328):aT Tryd.prog LT 64 [.c (.s (l.map wR)),.c (vs [c])] (.one (.c (vs (Lib.join l [c])) 1)):=by
 refine ⟨⟨_,Tryd.func64,by kernel_rfl,by kernel_rfl⟩,λw hL xs hxs hargs=>?_⟩;obtain ⟨a,b,rfl⟩:=AF hxs;have h0:Rd w false (λ_=>True) a (.s (l.map wR)):=hargs 0 _ rfl;obtain rfl:=pi (hargs 1 _ rfl);by_cases hn:l=[]
 ·subst hn
  obtain ⟨x,y,rfl⟩:=h0.empty_slice;refine (Any.strings_Join_none eV bY x y (bs [c]) w).mono ?_
  rintro e w' ⟨rfl,rfl⟩
  exact ⟨_,rfl,Below.refl _ _,rfl,rfl⟩
 generalize hr:l.map wR=rows at h0
 cases h0 with
 |empty a cap h=>exact absurd (List.map_eq_nil_iff.1 hr) hn
 | slice b off cap sz cs T fr rows F hcap hmax hsz hS hb hfit hown hF hd hlen hrd =>
   subst hr
   have hsz1:sz=1:=by
    cases l with
    |nil=>exact absurd rfl hn
    |cons x l=>have:=hlen (wR x) (by simp);rw [dB] at this;exact this.symm
   subst hsz1
   have hcells:∀ (j:Nat) x,(l.map bs)[j]? = some x->w.cell? ⟨b,off+j,none⟩=some (.string x):=λj x hj=>by
    rw [List.getElem?_map] at hj
    cases hx:l[j]? with
    |none=>rw [hx] at hj;cases hj
    | some y =>
      rw [hx] at hj
      cases hj
      have h1:=hrd j 0 (wR y) (vs y) (by rw [List.getElem?_map,hx];rfl) rfl;have hjl:j<l.length:=(List.getElem?_eq_some_iff.1 hx).1;simp only [List.length_map] at hfit;have h2:off+(j*1+0)<cs.size:=by omega
      have e3:off+(j*1+0)=off+j:=by omega
      rw [e3] at h1 h2;unfold World.cell?;rw [hb];generalize hv:cs.getD (off+j) undef=v at h1
      cases h1
      rw [Array.getD_eq_getD_getElem?,Array.getElem?_eq_getElem h2] at hv;simp at hv;simp [h2,hv]
   have hd2:(l.map bs).map (·.data.toList)=l:=by
    rw [List.map_map]
    conv=>rhs;rw [<- List.map_id l]
    exact List.map_congr_left λx _=>gk x
   have:=Any.strings_Join eV bY b off cap (l.map bs) (bs [c]) w hcells (bd hb) (by rw [List.length_map];omega) (by rw [List.length_map] at hcap ⊢;exact hcap) (by rw [hd2,gk];exact hj);rw [hd2,gk] at this;simp only [List.length_map] at this ⊢;refine this.mono ?_
   rintro e w' ⟨rfl,hB⟩
   exact ⟨_,rfl,hB,rfl,rfl⟩
set_option maxRecDepth 100000
set_option maxHeartbeats 4000000
theorem aZ (n:Int):aT Tryd.prog LT 25 [.c (vi n)] (.one (.c (vs (ak n)) 1)):=by
 refine aT.intro' am LT.stay Tryd.func25 (by kernel_rfl) rfl rfl rfl (Nat.le_of_ble_eq_true rfl) (λw0 base hE=>?_);simp;refine ab.pure (ch n 0 1000000000) (by simp) ?_;by_cases h:0<=n/\n<=1000000000
 ·have e:Lib.itoa n=ak n:=by unfold Lib.itoa ak;rw [if_neg (by omega),if_pos h]
  simp [h];refine ap hE (uZ n (by omega) (by omega)) (by simp) ?_;simp [e]
 ·have e:ak n=[]:=by unfold ak;rw [if_neg h]
  simp [h,e];rfl
theorem LT.below {w w':World} (h:Below w.heap.size w w') (hL:LT w):LT w':=LT.stay w w' ⟨h.os,h.tape,h.output,h.size,h.block⟩ hL
set_option maxRecDepth 20000
set_option maxHeartbeats 6400000
attribute [local simp] fH dU bm dT dB
theorem rZ {l:List (List UInt8)} {B:Nat} (h:∀ w∈l,w.length<=B):Lib.lens l<=B*l.length:=by
 induction l with
 |nil=>simp [Lib.lens]
 | cons x l ih =>
   have h1:=h x (by simp);have h2:=ih λw hw=>h w (by simp [hw])
   have e:Lib.lens (x::l)=x.length+Lib.lens l:=by simp [Lib.lens]
   rw [e,List.length_cons,Nat.mul_succ];omega
theorem jz {l:List (List UInt8)} {B:Nat} {c:UInt8} (h:∀ w∈l,w.length<=B):(Lib.join l [c]).length<=(B+1)*l.length:=by
 cases l with
 |nil=>simp [Lib.join_nil]
 | cons x l =>
   rw [Lib.join_length];have:=rZ h;rw [Nat.add_mul];simp at this ⊢;omega
theorem aY (n:Int):(ak n).length<=10:=by
 unfold ak
 split
 ·exact l5 9 _ (by omega)
 ·simp
theorem dE (l:List Int):(cV l).length<=11*l.length:=by
 have h:=jz (l:=l.map ak) (B:=10) (c:=46) (λw hw=>by obtain ⟨n,-,rfl⟩:=List.mem_map.1 hw;exact aY n)
 simpa [cV] using h
theorem jH (l:List Int) (hl:l.length<=2 ^ 40):aT Tryd.prog LT 59 [.c (.s (l.map aN))] (.one (.c (vs (cV l)) 1)):=by
 refine aT.intro' am LT.stay Tryd.func59 (by kernel_rfl) rfl rfl rfl (Nat.le_of_ble_eq_true rfl) (λw0 base hE=>?_);simp;refine bg hE (λx:Nat×Hd=>x.1<=l.length) (λx=>⟨20,0,[(8,.v (.int .i64 x.1)),(7,.v (.int .i64 l.length)),(6,.ro (l.map aN)),(3,.sl 5000 x.2 1 0 x.1)],[(5000,.rows x.2 1 (((l.take x.1).map ak).map wR) true)]⟩) (λx=>l.length - x.1) (0,none) (by simp) (by simp) (λx hx=>Ent.refl ?_);obtain ⟨i,H⟩:=x;simp only at hx ⊢;by_cases hlt:i<l.length
 ·simp [hlt]
  refine ap hE (aZ l[i]) (by simp) ?_;simp;intro b;have e1:i=min i l.length:=by omega
  refine ⟨e1,by omega,λH2=>Ent.refl ⟨i+1,by omega,by omega,H2,?_⟩⟩;simp;exact ⟨aC (by omega),d4 (f:=wR ∘ ak) hlt⟩
 ·have e:i=l.length:=by omega
  subst e;simp;refine ap hE (pQ (l.map ak) 46 (by simpa using hl) (by have:=dE l;unfold cV at this;omega)) (by simp) ?_;simp [cV]
theorem mJ {p:Part} (h:al p):(ae p).length<=2201:=by
 have hb:=h.bounds;have h1:=aY p.n;have h2:=dE p.signs;unfold ae
 split
 ·simp;omega
 ·split<;>simp<;>omega
theorem cW (o:List Part):(aU o).length<=2500000:=by
 unfold aU
 split
 ·rename_i h
  split
  ·simp
  ·have h1:=(bE h).1
   have h2:=jz (l:=(aI o).map ae) (B:=2201) (c:=32) (λw hw=>by obtain ⟨p,hp,rfl⟩:=List.mem_map.1 hw;exact mJ (h1.1.1 p hp));have h3:=h1.1.2;simp at h2;omega
 ·simp
end Go.Proofs.YtmfcmlldnjffeaaDoor
namespace Go.AM
open Go.RowKit
mutual
def fz (k:Nat) (H:Hd) (sz:Nat) (rs:List (List CD)):AV->AV
 | .sl k' H' sz' off len=>if k'=k then (if H'=H/\sz'=sz/\off+len<=rs.length then .ro (cut rs off len) else .any) else .sl k' H' sz' off len
 | .agg l=>.agg (fzL k H sz rs l)
 | .tup l=>.tup (fzL k H sz rs l)
 | .clo f l=>.clo f (fzL k H sz rs l)
 | .any=>.any
 | .un=>.un
 | .nil=>.nil
 | .v u=>.v u
 | .ro r=>.ro r
 | .p a b c=>.p a b c
 | .e a b c d e=>.e a b c d e
 | .rp r=>.rp r
 | .cv u n=>.cv u n
 | .ml a b c d=>.ml a b c d
 | .is u=>.is u
def fzL (k:Nat) (H:Hd) (sz:Nat) (rs:List (List CD)):List AV->List AV
 | []=>[]
 |a::l=>fz k H sz rs a::fzL k H sz rs l
end
def fzO (k:Nat) (H:Hd) (sz:Nat) (rs:List (List CD)):AObj->AObj
 | .vars b T cells=>.vars b T (fzL k H sz rs cells)
 |o=>o
def fzT (k:Nat) (H:Hd) (sz:Nat) (rs:List (List CD)) (t:List (Nat×AV)):List (Nat×AV):=t.map λp=>(p.1,fz k H sz rs p.2)
def fzH (k:Nat) (H:Hd) (sz:Nat) (rs:List (List CD)):AH->AH
 | []=>[]
 |(i,o)::h=>(i,fzO k H sz rs o)::fzH k H sz rs h
section rules
variable {k:Nat} {H:Hd} {sz:Nat} {rs:List (List CD)}
theorem se:fzT k H sz rs []=[]:=(rfl)
theorem p7 {i:Nat} {v:AV} {t:List (Nat×AV)}:fzT k H sz rs ((i,v)::t)=(i,fz k H sz rs v)::fzT k H sz rs t:=(rfl)
theorem qc {i:Nat} {o:AObj} {h:AH}:fzH k H sz rs ((i,o)::h)=(i,fzO k H sz rs o)::fzH k H sz rs h:=(rfl)
theorem si:fzH k H sz rs []=[]:=(rfl)
theorem kV:∀ (W:bj) (i:Nat),fzH k H sz rs (bH i W)=bH i W
 | [],i=>rfl
 | q :: l, i => by
   have e:∀ xs:List Value,fzL k H sz rs (xs.map .is)=xs.map .is:=by
    intro xs
    induction xs with
    |nil=>rfl
    |cons x xs ih=>simp [fzL,fz,ih]
   simp [bH,fzH,phO,fzO,e,kV l]
theorem sh {W:bj}:fzH k H sz rs (phs W)=phs W:=kV W _
theorem p8 {b:Nat} {T:TypeId} {l:List AV}:fzO k H sz rs (.vars b T l)=.vars b T (fzL k H sz rs l):=(rfl)
theorem p9 {H':Hd} {sz':Nat} {r:List (List CD)} {own:Bool}:fzO k H sz rs (.rows H' sz' r own)=.rows H' sz' r own:=(rfl)
theorem qa:fzO k H sz rs .dead=.dead:=(rfl)
theorem sf:fzL k H sz rs []=[]:=by simp [fzL]
theorem qb {a:AV} {l:List AV}:fzL k H sz rs (a::l)=fz k H sz rs a::fzL k H sz rs l:=by rw [fzL]
theorem Ax {u:Value}:fz k H sz rs (.v u)=.v u:=by rw [fz]
theorem vf:fz k H sz rs .any=.any:=by rw [fz]
theorem yb:fz k H sz rs .un=.un:=by rw [fz]
theorem vc:fz k H sz rs .nil=.nil:=by rw [fz]
theorem ye {r:List (List CD)}:fz k H sz rs (.ro r)=.ro r:=by rw [fz]
theorem yd {r:List CD}:fz k H sz rs (.rp r)=.rp r:=by rw [fz]
theorem yg {u:Value} {n:Nat}:fz k H sz rs (.cv u n)=.cv u n:=by rw [fz]
theorem yf {a c d:Nat} {b:Hd}:fz k H sz rs (.ml a b c d)=.ml a b c d:=by rw [fz]
theorem Ay {a b c:Nat}:fz k H sz rs (.p a b c)=.p a b c:=by rw [fz]
theorem Az {a c d e:Nat} {b:Hd}:fz k H sz rs (.e a b c d e)=.e a b c d e:=by rw [fz]
theorem vg {l:List AV}:fz k H sz rs (.agg l)=.agg (fzL k H sz rs l):=by rw [fz]
theorem va {l:List AV}:fz k H sz rs (.tup l)=.tup (fzL k H sz rs l):=by rw [fz]
theorem ve {f:Nat} {l:List AV}:fz k H sz rs (.clo f l)=.clo f (fzL k H sz rs l):=by rw [fz]
theorem yc {k' sz' off len:Nat} {H':Hd}:fz k H sz rs (.sl k' H' sz' off len)=if k'=k then (if H'=H/\sz'=sz/\off+len<=rs.length then .ro (cut rs off len) else .any) else .sl k' H' sz' off len:=by rw [fz]
end rules
attribute [simp] se p7 qc si sh p8 p9 qa sf qb Ax vf yb vc ye yd yg yf Ay Az vg va ve yc
open Go.RowKit
theorem aX.ent {E:Env} {body:Code} {Q:Exit->ASt->Prop} {st:ASt} (h:Ent E st (aX E body Q)):aX E body Q st:=λa w hR=>by
 obtain ⟨st',h1,h2⟩:=h a w hR;exact h1 a w h2
end Go.AM
namespace Go.Proofs.YtmfcmlldnjffeaaDoor
open Go.AM
set_option maxRecDepth 20000
set_option maxHeartbeats 6400000
attribute [local simp] fH dU bm dT dB
theorem ft {o:List Part} (h:bP o) (h0:aI o=[]):aU o=[45]:=by unfold aU;rw [if_pos h,if_pos h0]
theorem fu {o:List Part} (h:bP o) (h0:aI o≠[]):aU o=Lib.join ((aI o).map ae) [32]:=by unfold aU;rw [if_pos h,if_neg h0]
theorem jE (o:List Part) (hl:nL au o<=2 ^ 40):aT Tryd.prog LT 49 [.c (.s (o.map Part.row))] (.one (.c (vs (aU o)) 1)):=by
 refine aT.intro' am LT.stay Tryd.func49 (by kernel_rfl) rfl rfl rfl (Nat.le_of_ble_eq_true rfl) (λw0 base hE=>?_);simp;refine ab.pure (er o hl) (by simp) ?_;by_cases h:bP o
 rotate_left
 ·have e:aU o=[]:=by unfold aU;rw [if_neg h]
  simp [h,e]
 simp [h];refine ab.pure (jF o hl) (by simp) ?_;obtain ⟨h1,h2⟩:=bE h;have hz:=ft h;have hs:=fu h;have hle:=cW o;generalize aU o=T at hz hs hle ⊢;have hsh:=kx (bE h);generalize aI o=q at h1 hz hs hsh ⊢;have hlen:=h1.1.2;simp;intro H;refine aX.ent (lw 10 160 (by simp;exact ⟨rfl,rfl,rfl,rfl⟩) (by simp;exact ⟨rfl,rfl⟩) (by simp) (Ent.refl ?_));simp
 refine bg hE (λx:Nat×Hd=>x.1<=q.length) (λx=>⟨49,0,[(12,.v (.int .i64 x.1)),(11,.v (.int .i64 q.length)),(10,.ro (q.map Part.row)),(3,.sl 5000 x.2 1 0 x.1)],
  [(5000,.rows x.2 1 (((q.take x.1).map ae).map wR) true)]⟩) (λx=>q.length - x.1) (0,none) (by simp) (by simp) (λx hx=>Ent.refl ?_)
 obtain ⟨i,K⟩:=x;simp only at hx ⊢;by_cases hlt:i<q.length
 rotate_left
 ·have e:i=q.length:=by omega
  subst e;by_cases h0:q=[]
  ·subst h0
   simp [hz rfl]
  ·simp [h0]
   refine ap hE (pQ (q.map ae) 32 (by simp;omega) (by rw [<- hs h0];omega)) (by simp) ?_;simp [hs h0]
 have hpt:=hsh q[i] (List.getElem_mem hlt);have hok:=h1.1.1 q[i] (List.getElem_mem hlt);obtain ⟨⟨k,n,s⟩,hp⟩:∃ p,q[i]=p:=⟨_,rfl⟩;have hps:ae q[i]=ae ⟨k,n,s⟩:=by rw [hp]
 rw [hp] at hpt hok;have hb:=hok.bounds;simp only at hb;simp [hlt,hp,Part.row];intro b5;have e1:i=min i q.length:=by omega
 have h10:=aY n;by_cases k1:k=1
 ·have hT:ae q[i]=107::ak n:=by rw [hps,k1];simp [ae]
  simp [k1];refine ap hE (aZ n) (by simp) ?_;simp;refine ⟨by omega,λb=>⟨e1,by omega,λH2=>Ent.refl ⟨i+1,by omega,by omega,H2,?_⟩⟩⟩;simp;exact ⟨aC (by omega),by rw [<- hT];exact d4 (f:=wR ∘ ae) hlt⟩
 by_cases k3:k=3
 ·have hT:ae q[i]=100::ak n:=by rw [hps,k3];simp [ae]
  simp [k3];refine ap hE (aZ n) (by simp) ?_;simp;refine ⟨by omega,λb=>⟨e1,by omega,λH2=>Ent.refl ⟨i+1,by omega,by omega,H2,?_⟩⟩⟩;simp;exact ⟨aC (by omega),by rw [<- hT];exact d4 (f:=wR ∘ ae) hlt⟩
 have k2:k=2:=by omega
 have hT:ae q[i]=112::cV s:=by rw [hps,k2];simp [ae]
 have hsl:=dE s;simp [k2];refine ap hE (jH s (by omega)) (by simp) ?_;simp;refine ⟨by omega,λb=>⟨e1,by omega,λH2=>Ent.refl ⟨i+1,by omega,by omega,H2,?_⟩⟩⟩;simp;exact ⟨aC (by omega),by rw [<- hT];exact d4 (f:=wR ∘ ae) hlt⟩
def dI (s:List UInt8):List UInt8:=s.map λx=>if x=32 then 44 else x
theorem jD (o:List Part) (hl:nL au o<=2 ^ 40):aT Tryd.prog LT 26 [.c (.s (o.map Part.row))] (.one (.c (vs (dI (aU o))) 1)):=by
 refine aT.intro' am LT.stay Tryd.func26 (by kernel_rfl) rfl rfl rfl (Nat.le_of_ble_eq_true rfl) (λw0 base hE=>?_);have hle:=cW o;simp;refine ap hE (jE o hl) (by simp) ?_;simp;refine ap hE (nr (aU o) 32 44 (by decide) (by omega)) (by simp) ?_;simp [dI]
end Go.Proofs.YtmfcmlldnjffeaaDoor
namespace Go.Proofs.YtmfcmlldnjffeaaDoor
open Go.AM
set_option maxRecDepth 20000
set_option maxHeartbeats 6400000
attribute [local simp] fH dU bm dT dB
theorem fc {α:Type} {l:List α} {i:Nat} (h:i<l.length) (f:α->List UInt8) (c:UInt8) :
 Lib.join ((l.map f).take (i+1)) [c]=if i=0 then f l[i] else Lib.join ((l.map f).take i) [c]++c::f l[i]:=by
 have h':i<(l.map f).length:=by simpa using h
 rw [List.take_succ_eq_append_getElem h',nO,List.getElem_map];by_cases h0:i=0
 ·subst h0;simp
 ·rw [if_neg h0,if_neg]
  intro e;have:=congrArg List.length e;rw [List.length_take,Nat.min_eq_left (by omega)] at this;exact h0 this
theorem eK {α:Type} {l:List α} {i:Nat} (f:α->List UInt8) (c:UInt8) {B:Nat} (h:∀ a∈l,(f a).length<=B):(Lib.join ((l.map f).take i) [c]).length<=(B+1)*l.length:=by
 have h1:=jz (l:=(l.map f).take i) (B:=B) (c:=c) (λw hw=>by
  obtain ⟨a,ha,rfl⟩:=List.mem_map.1 (List.mem_of_mem_take hw);exact h a ha)
 have h2:((l.map f).take i).length<=l.length:=by simp;omega
 exact Nat.le_trans h1 (Nat.mul_le_mul_left _ h2)
theorem dC (l:List Int) (hl:l.length<=2 ^ 40):ai Tryd.prog 37 [.c (.s (l.map aN))] (.one (.c (vs (ci l)) 1)):=by
 refine pci am Tryd.func37 (λw0 base=>?_);simp;refine ab.pure (ec l hl) (by simp) ?_;by_cases h:bk l
 rotate_left
 ·have e:ci l=[]:=by unfold ci;rw [if_neg h]
  simp [h,e]
 by_cases h0:l=[]
 ·have e:ci l=[45]:=by unfold ci;rw [if_pos h,if_pos h0]
  subst h0;simp [h,e]
 have e:ci l=cV l:=el h h0;have hj:∀ i,(Lib.join ((l.map ak).take i) [46]).length<=11*l.length:=λi=>eK ak 46 (λn _=>aY n)
 simp [h,h0,e];refine bg eok (λi:Nat=>i<=l.length) (λi=>⟨29,0,[(14,.v (.int .i64 i)),(13,.v (.int .i64 l.length)),(12,.ro (l.map aN)),(3,.v (.string (bs (Lib.join ((l.map ak).take i) [46]))))],[]⟩) (λi=>l.length - i) 0 (by simp) (by simp [Lib.join_nil]) (λi hi=>Ent.refl ?_);by_cases hlt:i<l.length
 rotate_left
 ·have e:i=l.length:=by omega
  have ht:(l.map ak).take l.length=l.map ak:=List.take_of_length_le (by simp);subst e;simp [cV,ht]
 have hn:=fc hlt ak 46;have hji:=hj i;have hni:=aY l[i];by_cases hi0:i=0
 ·subst hi0
  simp [hlt];refine ab.pure (ax l[0]) (by simp) ?_;simp [Lib.join_nil];refine ⟨by omega,Ent.refl ⟨1,by omega,by omega,?_⟩⟩;rw [if_pos rfl] at hn;simp [hn];rfl
 ·have hi1:0<i:=by omega
  rw [if_neg hi0] at hn;generalize Lib.join ((l.map ak).take i) [46]=S at hn hji ⊢;simp [hlt,hi1];refine ⟨by omega,?_⟩;refine ab.pure (ax l[i]) (by simp) ?_;simp;refine ⟨by omega,Ent.refl ⟨i+1,by omega,by omega,?_⟩⟩;simp [hn];exact aC (by omega)
theorem jm (o:List Part) (hl:nL au o<=2 ^ 40):ai Tryd.prog 45 [.c (.s (o.map Part.row))] (.one (.c (vs (aU o)) 1)):=by
 refine pci am Tryd.func45 (λw0 base=>?_);simp;refine ab.pure (ek o hl) (by simp) ?_;by_cases h:bP o
 rotate_left
 ·have e:aU o=[]:=by unfold aU;rw [if_neg h]
  simp [h,e]
 simp [h];refine ab.pure (jn o hl) (by simp) ?_;obtain ⟨h1,h2⟩:=bE h;have hz:=ft h;have hs:=fu h;have hle:=cW o;generalize aU o=T at hz hs hle ⊢;have hsh:=kx (bE h);generalize aI o=q at h1 hz hs hsh ⊢;have hlen:=h1.1.2;simp;intro H;refine aX.ent (lw 10 160 (by simp;exact ⟨rfl,rfl,rfl,rfl⟩) (by simp;exact ⟨rfl,rfl⟩) (by simp) (Ent.refl ?_));simp;have hj:∀ i,(Lib.join ((q.map ae).take i) [32]).length<=2202*q.length:=λi=>eK ae 32 (λp hp=>mJ (h1.1.1 p hp))
 refine bg eok (λi:Nat=>i<=q.length) (λi=>⟨48,0,[(12,.v (.int .i64 i)),(11,.v (.int .i64 q.length)),(10,.ro (q.map Part.row)),(3,.v (.string (bs (Lib.join ((q.map ae).take i) [32]))))],[]⟩) (λi=>q.length - i) 0 (by simp) (by simp [Lib.join_nil]) (λi hx=>Ent.refl ?_)
 have hne:∀ i,0<i->i<=q.length->Lib.join ((q.map ae).take i) [32]≠[]:=λi hi hq=>by
  obtain ⟨j,rfl⟩:∃ j,i=j+1:=⟨i - 1,by omega⟩;rw [fc (show j<q.length by omega) ae 32]
  split
  ·exact rE _
  ·simp
 have hji:=hj i;by_cases hlt:i<q.length
 rotate_left
 ·have e:i=q.length:=by omega
  subst e;by_cases h0:q=[]
  ·subst h0
   simp [hz rfl,Lib.join_nil]
  ·have hn:=hne q.length (List.length_pos_iff.2 h0) (Nat.le_refl _)
   have ht:(q.map ae).take q.length=q.map ae:=List.take_of_length_le (by simp);rw [ht] at hn;simp [ht,hn,hs h0]
 have hpt:=hsh q[i] (List.getElem_mem hlt);have hok:=h1.1.1 q[i] (List.getElem_mem hlt);have hn:=fc hlt ae 32;obtain ⟨⟨k,n,s⟩,hp⟩:∃ p,q[i]=p:=⟨_,rfl⟩;rw [hp] at hpt hok hn;have hb:=hok.bounds;simp only at hb;have h10:=aY n;by_cases hi0:i=0
 ·subst hi0
  rw [if_pos rfl] at hn;simp [hlt,hp,Part.row,Lib.join_nil];intro b5;by_cases k1:k=1
  ·have hT:ae ⟨k,n,s⟩=107::ak n:=by rw [k1];simp [ae]
   rw [hT] at hn;simp [k1];refine ab.pure (ax n) (by simp) ?_;simp;refine ⟨by omega,Ent.refl ⟨1,by omega,by omega,?_⟩⟩;simp [hn];rfl
  have k23:k=2\/k=3:=by omega
  rcases k23 with k2|k3
  ·have hT:ae ⟨k,n,s⟩=112::cV s:=by rw [k2];simp [ae]
   rw [hT] at hn;have hso:=(hpt.1.put k2).2;have hsn:=mz hpt.1 k2;have hsl:=dE s;simp only at hso hsn;simp [k2];refine ab.pure (dC s (by omega)) (by simp) ?_;rw [el hso hsn];simp;refine ⟨by omega,Ent.refl ⟨1,by omega,by omega,?_⟩⟩;simp [hn];rfl
  ·have hT:ae ⟨k,n,s⟩=100::ak n:=by rw [k3];simp [ae]
   rw [hT] at hn;simp [k3];refine ab.pure (ax n) (by simp) ?_;simp;refine ⟨by omega,Ent.refl ⟨1,by omega,by omega,?_⟩⟩;simp [hn];rfl
 ·have hn0:=hne i (by omega) hx
  rw [if_neg hi0] at hn;generalize Lib.join ((q.map ae).take i) [32]=S at hn hji hn0 ⊢;simp [hlt,hp,Part.row,hn0];intro b5;refine ⟨by omega,?_⟩;by_cases k1:k=1
  ·have hT:ae ⟨k,n,s⟩=107::ak n:=by rw [k1];simp [ae]
   rw [hT] at hn;simp [k1];refine ⟨by omega,?_⟩;refine ab.pure (ax n) (by simp) ?_;simp;refine ⟨by omega,Ent.refl ⟨i+1,by omega,by omega,?_⟩⟩;simp [hn];exact aC (by omega)
  have k23:k=2\/k=3:=by omega
  rcases k23 with k2|k3
  ·have hT:ae ⟨k,n,s⟩=112::cV s:=by rw [k2];simp [ae]
   rw [hT] at hn;have hso:=(hpt.1.put k2).2;have hsn:=mz hpt.1 k2;have hsl:=dE s;simp only at hso hsn;simp [k2];refine ⟨by omega,?_⟩;refine ab.pure (dC s (by omega)) (by simp) ?_;rw [el hso hsn];simp;refine ⟨by omega,Ent.refl ⟨i+1,by omega,by omega,?_⟩⟩;simp [hn];exact aC (by omega)
  ·have hT:ae ⟨k,n,s⟩=100::ak n:=by rw [k3];simp [ae]
   rw [hT] at hn;simp [k3];refine ⟨by omega,?_⟩;refine ab.pure (ax n) (by simp) ?_;simp;refine ⟨by omega,Ent.refl ⟨i+1,by omega,by omega,?_⟩⟩;simp [hn];exact aC (by omega)
end Go.Proofs.YtmfcmlldnjffeaaDoor
namespace Go.Proofs.YtmfcmlldnjffeaaDoor
open Go.AM
set_option maxRecDepth 20000
set_option maxHeartbeats 6400000
attribute [local simp] fH dU bm dT dB
theorem iO (o:List Part):(dI (aU o)).length<=2500000:=by have:=cW o;simpa [dI] using this
end Go.Proofs.YtmfcmlldnjffeaaDoor
namespace Go.Proofs.YtmfcmlldnjffeaaDoor
open Go.AM Go.RowKit
set_option maxRecDepth 100000
set_option maxHeartbeats 4000000
def bn (w0:World) (b:Nat) (l:List UInt8) (W:World):Prop:=
 Below w0.heap.size w0 W/\w0.heap.size<=b/\∃ cs:Array Value,W.heap[b]? = some (.cells cs 5 (cs.size,cs.size+1))/\∀ (j:Nat) (h:j<l.length),cs[j]? = some (.int .u8 l[j].toNat)
theorem bn.cell {w0:World} {b:Nat} {l:List UInt8} {W:World} (h:bn w0 b l W) {j:Nat} (hj:j<l.length):W.cell? ⟨b,j,none⟩=some (.int .u8 l[j].toNat):=by
 obtain ⟨-,-,cs,hb,hc⟩:=h;unfold World.cell?;rw [hb];exact hc j hj
theorem bn.soft {w0:World} {b:Nat} {l:List UInt8} {W:World} (h:bn w0 b l W) {j:Nat} (hj:j<l.length):W.frozen? ⟨b,j,none⟩=false:=by
 obtain ⟨-,-,cs,hb,hc⟩:=h;have:=(Array.getElem?_eq_some_iff.1 (hc j hj)).1;unfold World.frozen?;rw [hb];simp;omega
theorem bn.set {w0:World} {b:Nat} {l:List UInt8} {W:World} (h:bn w0 b l W) {j:Nat} (hj:j<l.length) (x:UInt8):bn w0 b (l.set j x) (W.setCell ⟨b,j,none⟩ (.int .u8 x.toNat)):=by
 obtain ⟨h1,h2,cs,hb,hc⟩:=h;have hlt:=bd hb;refine ⟨h1.trans ⟨rfl,rfl,rfl,by simp [World.setCell],λk hk=>?_⟩,h2,cs.setIfInBounds j (.int .u8 x.toNat),?_,λi hi=>?_⟩
 ·have:b≠k:=by have:=h1.size;omega
  simp [World.setCell,Array.getElem?_modify,this]
 ·simp [World.setCell,Array.getElem?_modify,hb]
 ·rw [List.length_set] at hi
  rw [Array.getElem?_setIfInBounds];by_cases e:j=i
  ·subst e
   have:=(Array.getElem?_eq_some_iff.1 (hc j hj)).1;simp [this]
  ·rw [if_neg e,hc i hi,List.getElem_set_ne e]
theorem lx {w0 w1:World} (h:Below w0.heap.size w0 w1) (l:List UInt8):bn w0 w1.heap.size l (Lib.bytesWorld w1 5 (bs l)):=by
 refine ⟨h.trans ((Lib.bytesWorld_below w1 _ _).mono h.size),h.size,_,Lib.bytesWorld_at_new w1 _ _,λj hj=>?_⟩;unfold Lib.bytesCells;rw [Array.getElem?_append_left (by simpa [bs] using hj)];simp [bs,hj]
theorem bn.text {w0:World} {b:Nat} {l:List UInt8} {W:World} (h:bn w0 b l W) (hl:l.length<=2 ^ 40) (c:Nat) {s d e:TypeId} (hs:Tryd.prog.underlying s=some (.slice e)) (he:Tryd.prog.underlying e=some (.int .u8)) (hd:Tryd.prog.underlying d=some .string) :
 (convert s d (.slice (some ⟨b,0,none⟩) l.length c)).run Tryd.prog W=.ok (.string (bs l)) W:=by
 rw [run_convert_bytes_string W s d e _ _ _ hs he hd];obtain ⟨-,-,cs,hb,hc⟩:=h
 have hr:Rd W false (λ_=>True) (.slice (some ⟨b,0,none⟩) (l.map aF).length (l.map aF).length) (.s (l.map aF)):=by
  refine .slice b 0 _ 1 cs _ _ _ (λ_ _ _=>False) (Nat.le_refl _) (by rw [List.length_map];unfold maxLen;omega) (by omega) trivial hb ?_ (λh=>by cases h) (λ_ _ _ h=>h.elim) (λh=>by cases h) (by simp [aF]) ?_
  ·cases hn:l.length with
   |zero=>simp [hn]
   | succ n =>
     have:=(Array.getElem?_eq_some_iff.1 (hc n (by omega))).1;simp [hn];omega
  ·intro i j row x hi hj
   rw [List.getElem?_map] at hi
   cases hx:l[i]? with
   |none=>rw [hx] at hi;cases hi
   | some y =>
     rw [hx] at hi
     cases hi
     obtain ⟨hil,rfl⟩:=List.getElem?_eq_some_iff.1 hx
     match j,hj with
     | 0, hj =>
       cases hj
       have h1:=hc i hil;have e3:0+(i*1+0)=i:=by omega
       rw [e3,Array.getD_eq_getD_getElem?,h1];exact .plain rfl
 have:=(gP (P:=Tryd.prog) hr).1;rw [List.length_map] at this;exact this
def dh (f:UInt8->UInt8) (l:List UInt8) (k:Nat):List UInt8:=(l.take k).map f++l.drop k
theorem gC (f:UInt8->UInt8) (l:List UInt8) (k:Nat):(dh f l k).length=l.length:=by simp [dh];omega
theorem ny (f:UInt8->UInt8) (l:List UInt8):dh f l 0=l:=by simp [dh]
theorem pG (f:UInt8->UInt8) (l:List UInt8):dh f l l.length=l.map f:=by simp [dh]
theorem mS (f:UInt8->UInt8) {l:List UInt8} {k:Nat} (h:k<l.length) (h':k<(dh f l k).length):(dh f l k)[k]'h'=l[k]:=by
 have hA:((l.take k).map f).length=k:=by simp;omega
 have e:(dh f l k)[k]? = l[k]?:=by
  unfold dh;rw [List.getElem?_append_right (by omega),hA,Nat.sub_self,List.getElem?_drop,Nat.add_zero]
 rw [List.getElem?_eq_getElem h',List.getElem?_eq_getElem h] at e;exact Option.some.inj e
theorem kB (f:UInt8->UInt8) {l:List UInt8} {k:Nat} (h:k<l.length):(dh f l k).set k (f l[k])=dh f l (k+1):=by
 have hA:((l.take k).map f).length=k:=by simp;omega
 unfold dh;rw [List.set_append_right _ _ (by omega),hA,Nat.sub_self,List.drop_eq_getElem_cons h,List.set_cons_zero,List.take_succ_eq_append_getElem h,List.map_append,List.append_assoc];rfl
theorem nz (f:UInt8->UInt8) {l:List UInt8} {k:Nat} (h:k<l.length) (e:f l[k]=l[k]):dh f l (k+1)=dh f l k:=by
 rw [<- kB f h,e];have h':k<(dh f l k).length:=by rw [gC];exact h
 have e2:=List.set_getElem_self h'
 rwa [mS f h] at e2
def cE (x:UInt8):UInt8:=if x=32 then 44 else x
theorem r5 (o:Value) (l:List UInt8) (w:World) (hl:l.length<=2 ^ 40)
 (A:Calls Tryd.prog 45 #[o] w λe w'=>e=.returned (.string (bs l))/\Below w.heap.size w w') :
 Calls Tryd.prog 23 #[o] w λe w'=>e=.returned (.string (bs (l.map cE)))/\Below w.heap.size w w':=by
 have mixed:Tryd.prog.follows .mixedOrders=true:=by kernel_rfl
 go_enter Tryd.func23,Tryd.ntmps23
 go_wp2_with (go_at_call 45;refine A.mono ?_;rintro e w1 ⟨rfl,h1⟩)
 have hcv:=Lib.run_convert_string_bytes (P:=Tryd.prog) w1 9 71 5 (bs l) (u:=.string) Tryd.underlying9 Tryd.underlying71 Tryd.underlying5;have hB0:Hid (bn w w1.heap.size (dh cE l 0) (Lib.bytesWorld w1 5 (bs l))):=by rw [ny];exact lx h1 l
 rw [bm] at hcv;generalize Lib.bytesWorld w1 5 (bs l)=w2 at hcv hB0;generalize grownCap w1 l.length 0 5=C at hcv;generalize w1.heap.size=b at hcv hB0
 clear h1 A
 obtain ⟨n,hn⟩:∃ n,n=l.length:=⟨_,rfl⟩;rw [<- hn] at hcv;have HN:=Lib.hid hn
 clear hn
 rw [hcv]
 clear hcv
 go_wp2
 have hnl:n<=l.length:=by have:=HN.out;omega
 have hnl2:l.length<=n:=by have:=HN.out;omega
 go_loopw [11] (λvi wr=>∃ k:Nat,vi=.int .i64 k/\k<=n/\Hid (bn w b (dh cE l k) wr)) (λvi _=>n - (intOf vi).toNat)
 case atStart=>exact ⟨0,rfl,Nat.zero_le _,hB0⟩
 case round=>
  obtain ⟨k,rfl,hk,hb⟩:=hrel
  clear hB0
  by_cases hkn:k<n
  ·have hkl:k<l.length:=by omega
   have hkm:k<(dh cE l k).length:=by rw [gC];exact hkl
   have hc:=hb.out.cell hkm;have hf:=hb.out.soft hkm;rw [mS cE hkl hkm] at hc;by_cases h32:l[k]=32
   ·rw [h32] at hc
    have H32:=Lib.hid h32
    clear h32 hkm
    go_wp2
    refine ⟨⟨k+1,by simp,hkn,?_⟩,by simp [intOf];omega⟩;have e:cE l[k]=44:=by unfold cE;rw [if_pos H32.out]
    have h2:=hb.out.set (by rw [gC];exact hkl) (44:UInt8);have h3:=kB cE hkl;rw [e] at h3;rw [h3] at h2;exact h2
   ·have e:cE l[k]=l[k]:=by unfold cE;rw [if_neg h32]
    have h3:=Lib.hid (nz cE hkl e)
    clear e
    have hd:¬ (l[k].toNat:Int)=32:=λh=>h32 (UInt8.toNat_inj.1 (by simpa using Int.ofNat.inj h))
    clear h32 hkm
    generalize l[k]=c at hc hd
    go_wp2
    refine ⟨⟨k+1,by simp,hkn,?_⟩,by simp [intOf];omega⟩;have:=hb.out;rw [<- h3.out] at this;exact this
  ·have hkn':k=n:=by omega
   subst hkn';have hB:=hb.out;rw [HN.out,pG] at hB;have ht:=hB.text (by rw [List.length_map];exact hl) C Tryd.underlying71 Tryd.underlying5 Tryd.underlying9;rw [List.length_map,<- HN.out] at ht;have HB:=Lib.hid hB
   clear hB
   go_wp2
   go_ret
   exact ⟨rfl,HB.out.1⟩
theorem kf (o:List Part) (hl:nL au o<=2 ^ 40):ai Tryd.prog 23 [.c (.s (o.map Part.row))] (.one (.c (vs (dI (aU o))) 1)):=by
 refine ⟨⟨_,Tryd.func23,by kernel_rfl,by kernel_rfl⟩,λw _ xs hxs hargs=>?_⟩;obtain ⟨a,rfl⟩:=yq hxs;have hle:=cW o;refine (r5 a (aU o) w (by omega) (((jm o hl).2 w trivial #[a] rfl hargs).mono ?_)).mono ?_
 ·rintro e w' ⟨v,rfl,hb,hv⟩
  obtain ⟨rfl,-⟩:=hv;exact ⟨rfl,hb⟩
 ·rintro e w' ⟨rfl,hb⟩
  exact ⟨_,rfl,hb,rfl,rfl⟩
open Go.AM
set_option maxRecDepth 20000
set_option maxHeartbeats 6400000
attribute [local simp] fH dU bm dT dB wR
theorem w64 {j:Int} (h0:0<=j) (h1:j<1000):IntKind.i64.wrap j=j:=Go.IntWalk.i64_in _ (by omega)
def bw (k:Int):List UInt8:=if k=1 then [101,100,105,116] else if k=2 then [115,101,110,100] else if k=3 then [108,111,115,101] else if k=4 then [97,103,97,105,110] else if k=5 then [116,97,107,101] else if k=6 then [97,110,101,119] else []
theorem f9 (k:Int):ai Tryd.prog 31 [.c (vi k)] (.one (.c (vs (bw k)) 1)):=by
 refine pci am Tryd.func31 (λw0 base=>?_);simp;intro b;refine ab.pure (ch k 1 6) (by simp) ?_;by_cases h:1<=k/\k<=6
 ·have hc:k=1\/k=2\/k=3\/k=4\/k=5\/k=6:=by omega
  rcases hc with rfl|rfl|rfl|rfl|rfl|rfl
  all_goals simp [bw,w64]
 ·have e:bw k=[]:=by
   unfold bw;rw [if_neg (by omega)];rw [if_neg (by omega)];rw [if_neg (by omega)];rw [if_neg (by omega)];rw [if_neg (by omega)];rw [if_neg (by omega)]
  simp [h,e]
theorem kg (k:Int):ai Tryd.prog 28 [.c (vi k)] (.one (.c (vs (bw k)) 1)):=by
 refine pci am Tryd.func28 (λw0 base=>?_);simp;refine ab.pure (cK k 1 6) (by simp) ?_;by_cases h:1<=k/\k<=6
 ·have hc:k=1\/k=2\/k=3\/k=4\/k=5\/k=6:=by omega
  rcases hc with rfl|rfl|rfl|rfl|rfl|rfl
  all_goals simp [bw]
 ·have e:bw k=[]:=by
   unfold bw;rw [if_neg (by omega)];rw [if_neg (by omega)];rw [if_neg (by omega)];rw [if_neg (by omega)];rw [if_neg (by omega)];rw [if_neg (by omega)]
  simp [h,e]
end Go.Proofs.YtmfcmlldnjffeaaDoor
namespace Go.Proofs.YtmfcmlldnjffeaaDoor
open Go.AM
set_option maxRecDepth 20000
set_option maxHeartbeats 6400000
attribute [local simp] fH dU bm dT dB
end Go.Proofs.YtmfcmlldnjffeaaDoor
namespace Go.Proofs.YtmfcmlldnjffeaaDoor
open Go.AM
set_option maxRecDepth 20000
set_option maxHeartbeats 6400000
attribute [local simp] fH dU bm dT dB
def xH (n:Int):Prop:=0<=n/\n<=1000000000
theorem dm {k:Int}:bw k=[] ↔ ¬ (1<=k/\k<=6):=by
 constructor
 ·intro h hk
  have hc:k=1\/k=2\/k=3\/k=4\/k=5\/k=6:=by omega
  rcases hc with rfl|rfl|rfl|rfl|rfl|rfl
  all_goals exact absurd h (by decide)
 ·intro h
  unfold bw;rw [if_neg (by omega),if_neg (by omega),if_neg (by omega),if_neg (by omega),if_neg (by omega),if_neg (by omega)]
theorem cw (k:Int):(bw k).length<=10:=by
 unfold bw
 (repeat' split)<;>decide
def dR (e:Event):Prop:=(1<=e.kind/\e.kind<=6)/\xH e.who/\xH e.n/\bP e.o/\(e.kind≠1->e.o=[])/\(e.kind≠5->e.n=0)
open Classical in
noncomputable def aL (e:Event):List UInt8:=if dR e then bw e.kind++32::(ak e.who++(if e.kind=1 then 32::dI (aU e.o) else if e.kind=5 then 32::ak e.n else [])) else []
theorem f7 (e:Event) (hl:bu e<=2 ^ 40):aT Tryd.prog LT 14 [.agg e.row] (.one (.c (vs (aL e)) 1)):=by
 refine aT.intro' am LT.stay Tryd.func14 (by kernel_rfl) rfl rfl rfl (Nat.le_of_ble_eq_true rfl) (λw0 base eok=>?_);have hno:¬ dR e->aL e=[]:=λh=>by unfold aL;rw [if_neg h]
 have hyes:dR e->aL e=bw e.kind++32::(ak e.who++(if e.kind=1 then 32::dI (aU e.o) else if e.kind=5 then 32::ak e.n else [])):=λh=>by unfold aL;rw [if_pos h]
 generalize aL e=T at hno hyes ⊢;obtain ⟨kind,who,n,o⟩:=e;unfold bu at hl;simp only at hl hyes;have hk:=cw kind;have h1:=aY who;have h2:=aY n;have h3:=iO o;simp [Event.row];intro b;refine ab.pure (f9 kind) (by simp) ?_;by_cases c1:1<=kind/\kind<=6
 rotate_left
 ·have hz:=dm.2 c1
  simp [hz,hno (λh=>c1 h.1)]
 have hz:¬ bw kind=[]:=λh=>dm.1 h c1
 simp [hz];refine ab.pure (ch who 0 1000000000) (by simp) ?_;by_cases c2:0<=who/\who<=1000000000
 rotate_left
 ·simp [c2,hno (λh=>c2 h.2.1)]
 simp [c2];refine ab.pure (ch n 0 1000000000) (by simp) ?_;by_cases c3:0<=n/\n<=1000000000
 rotate_left
 ·simp [c3,hno (λh=>c3 h.2.2.1)]
 simp [c3];refine ab.pure (er o hl) (by simp) ?_;by_cases c4:bP o
 rotate_left
 ·simp [c4,hno (λh=>c4 h.2.2.2.1)]
 simp [c4];by_cases k1:kind=1
 ·by_cases c6:n=0
  ·have ok:dR ⟨kind,who,n,o⟩:=⟨c1,c2,c3,c4,λh=>absurd k1 h,λ_=>c6⟩
   rw [hyes ok];have hk1:=cw 1;simp [k1,c6];refine ap eok (aZ who) (by simp) ?_;simp;refine ⟨by omega,by omega,?_⟩;refine ap eok (jD o hl) (by simp) ?_;simp;omega
  ·simp [k1,c6,hno (λh=>c6 (h.2.2.2.2.2 (by simp only;omega)))]
 ·by_cases c5:o=[]
  ·by_cases k5:kind=5
   ·have ok:dR ⟨kind,who,n,o⟩:=⟨c1,c2,c3,c4,λ_=>c5,λh=>absurd k5 h⟩
    rw [hyes ok];have hk1:=cw 5;simp [c5,k5];refine ap eok (aZ who) (by simp) ?_;simp;refine ⟨by omega,by omega,?_⟩;refine ap eok (aZ n) (by simp) ?_;simp;omega
   ·by_cases c6:n=0
    ·have ok:dR ⟨kind,who,n,o⟩:=⟨c1,c2,c3,c4,λ_=>c5,λ_=>c6⟩
     rw [hyes ok];simp [k1,c5,k5,c6];refine ap eok (aZ who) (by simp) ?_;simp;refine ⟨by omega,by omega,?_⟩;simp [k1,k5]
    ·simp [k1,c5,k5,c6,hno (λh=>c6 (h.2.2.2.2.2 k5))]
  ·have c5':0<o.length:=List.length_pos_iff.2 c5
   simp [k1,c5',hno (λh=>c5 (h.2.2.2.2.1 k1))]
theorem fX (e:Event) (hl:bu e<=2 ^ 40):ai Tryd.prog 12 [.agg e.row] (.one (.c (vs (aL e)) 1)):=by
 refine pci am Tryd.func12 (λw0 base=>?_);have hno:¬ dR e->aL e=[]:=λh=>by unfold aL;rw [if_neg h]
 have hyes:dR e->aL e=bw e.kind++32::(ak e.who++(if e.kind=1 then 32::dI (aU e.o) else if e.kind=5 then 32::ak e.n else [])):=λh=>by unfold aL;rw [if_pos h]
 generalize aL e=T at hno hyes ⊢;obtain ⟨kind,who,n,o⟩:=e;unfold bu at hl;simp only at hl hyes;have hk:=cw kind;have h1:=aY who;have h2:=aY n;have h3:=iO o;simp [Event.row];intro b;refine ab.pure (kg kind) (by simp) ?_;by_cases c1:1<=kind/\kind<=6
 rotate_left
 ·have hz:=dm.2 c1
  simp [hz,hno (λh=>c1 h.1)]
 have hz:¬ bw kind=[]:=λh=>dm.1 h c1
 simp [hz];refine ab.pure (cK who 0 1000000000) (by simp) ?_;by_cases c2:0<=who/\who<=1000000000
 rotate_left
 ·simp [c2,hno (λh=>c2 h.2.1)]
 simp [c2];refine ab.pure (cK n 0 1000000000) (by simp) ?_;by_cases c3:0<=n/\n<=1000000000
 rotate_left
 ·simp [c3,hno (λh=>c3 h.2.2.1)]
 simp [c3];refine ab.pure (ek o hl) (by simp) ?_;by_cases c4:bP o
 rotate_left
 ·simp [c4,hno (λh=>c4 h.2.2.2.1)]
 simp [c4];by_cases k5:kind=5
 ·by_cases c5:o=[]
  ·have ok:dR ⟨kind,who,n,o⟩:=⟨c1,c2,c3,c4,λ_=>c5,λh=>absurd k5 h⟩
   rw [hyes ok];have hk1:=cw 5;simp [c5,k5];refine ⟨by omega,?_⟩;refine ab.pure (ax who) (by simp) ?_;simp;refine ⟨by omega,by omega,?_⟩;refine ab.pure (ax n) (by simp) ?_;simp;omega
  ·have c5':0<o.length:=List.length_pos_iff.2 c5
   have k1:kind≠1:=by omega
   simp [k5,c5',hno (λh=>c5 (h.2.2.2.2.1 k1))]
 ·by_cases c6:n=0
  rotate_left
  ·simp [k5,c6,hno (λh=>c6 (h.2.2.2.2.2 k5))]
  by_cases k1:kind=1
  ·have ok:dR ⟨kind,who,n,o⟩:=⟨c1,c2,c3,c4,λh=>absurd k1 h,λ_=>c6⟩
   rw [hyes ok];have hk1:=cw 1;simp [k1,c6];refine ⟨by omega,?_⟩;refine ab.pure (ax who) (by simp) ?_;simp;refine ⟨by omega,by omega,?_⟩;refine ab.pure (kf o hl) (by simp) ?_;simp;omega
  by_cases c5:o=[]
  ·have ok:dR ⟨kind,who,n,o⟩:=⟨c1,c2,c3,c4,λ_=>c5,λ_=>c6⟩
   rw [hyes ok];simp [k1,c5,k5,c6];refine ⟨by omega,?_⟩;refine ab.pure (ax who) (by simp) ?_;simp;refine ⟨by omega,?_⟩;simp [k1,k5]
  ·have c5':0<o.length:=List.length_pos_iff.2 c5
   simp [k1,k5,c6,c5',hno (λh=>c5 (h.2.2.2.2.1 k1))]
end Go.Proofs.YtmfcmlldnjffeaaDoor
namespace Go.Proofs.YtmfcmlldnjffeaaDoor
open Go.AM
set_option maxRecDepth 20000
noncomputable def es (e:Event):ByteArray:=bs (aL e)
theorem fW (e:Event) (_:e.fits) (n:bu e<=2 ^ 20):ai Tryd.prog 12 [.agg e.row] (.one (.c (.v (.string (es e))) 1)):=fX e (by omega)
theorem f8 (e:Event) (_:e.fits) (n:bu e<=2 ^ 20):aT Tryd.prog LT 14 [.agg e.row] (.one (.c (.v (.string (es e))) 1)):=f7 e (by omega)
open Go.AM Go.ChangeShapes Go.WideShapes Go.ChangeAt Go.RowKit
theorem pf {H:Type} {enc:TypeId×Value->H} {a:Assume} {C:Checked} {os:Os} {f:FuncId} {fn:Func} {s:ChangeSpec} {conds:List PathCond} {apart fresh handsOn again:Bool} {X:World->Array Value->Prop}
 (hX:∀ (w w':World) (args:Array Value),w.heap=w'.heap->X w args->X w' args)
 (own:ownKnob C.prog.godebug=none) (started:os.Started) (noInit:C.prog.inits.idxOf? f=none) (hfn:C.prog.funcs[f]? = some fn)
 (witness:∃ (w:World) (tape:Tape) (i:Input),w.os=os /\ (w.forCall tape i).Shaped C.prog /\ i.vars=[] /\ Input.okWide C.prog (w.forCall tape i) .any w.heap.size f i /\
  ((s.pre enc C.prog fn conds apart (w.forCall tape i).memory i.args/\X (w.forCall tape i).memory i.args)/\sizedMet enc C.prog fn (OpenSpec.ofChange s) apart (w.forCall tape i).memory i.args)/\a.holds C.prog (lone (Frame.enter C.prog f i.args .normal) [] (w.forCall tape i)))
 (contract:∀ (W:World) (base:Nat) (args:Array Value) (ds gs:List (DataW H)) (before:List MemPlace),
  (∀ (j:Nat) t v,fn.params[j]? = some t -> args[j]? = some v -> Value.okWide C.prog W .any base t v) ->
  DataW.Whole enc C.prog fn.params.toList s.vars apart W args.toList ds gs before -> X W args -> W.ShapedOpen C.prog ->
  Calls C.prog f args W λe W'=>∃ v,e=.returned v/\s.post enc C.prog fn apart fresh handsOn again W args v W') :
 ReturnsInHanded a C os f .any (λw args=>(s.pre enc C.prog fn conds apart w args/\X w args)/\sizedMet enc C.prog fn (OpenSpec.ofChange s) apart w args) (s.post enc C.prog fn apart fresh handsOn again):=by
 refine returnsInHanded_of_calls own started noInit witness ?_;intro w tape i _ hsh _ hok hpre hholds;obtain ⟨_,_,_,fn',hfn',_,_,_,_,hval⟩:=hok;have e:fn'=fn:=Option.some.inj (hfn'.symm.trans hfn);subst e;obtain ⟨⟨⟨ds,gs,before,hw,hc⟩,hx⟩,hz⟩:=hpre;have hw':=DataW.Whole.of_heap (w':=w.forCall tape i) (by rfl) hw;refine (contract (w.forCall tape i) w.heap.size i.args ds gs before hval hw' (hX _ _ _ (by rfl) hx) hsh).mono λe W' ⟨v,he,hp⟩=>?_
 subst he;exact ChangeSpec.post_blind hp
theorem rC : Tryd.prog.globalNamed "internal/strconv.uint64pow10" = some 0 := by kernel_rfl
theorem rB:(Tryd.prog.globals[0]?).map (·.type)=some 119:=by kernel_rfl
theorem xM {a b : String × DataW Unit} {r : List (String × DataW Unit)} {W : World} (h : laidMet Tryd.prog (a :: b :: ("internal/strconv.uint64pow10", Lib.tabData .u64 Lib.pow10Tab) :: r) W) (hsh : W.ShapedOpen Tryd.prog) (he : qZ W) : LT W :=
 ⟨Lib.tabIs_of_head (t:=119) (e:=109) (n:=20) rC rB (by kernel_rfl) (by kernel_rfl) (by kernel_rfl) (by kernel_rfl) h.tail.tail,cell_of_shapedOpen_int (zero:=#[.int .i64 0]) (t:=3) hsh (of_decide_eq_true (by kernel_rfl)) (by kernel_rfl) rfl (by kernel_rfl) (by kernel_rfl) Tryd.underlying3,he⟩
theorem rY {l:List (String×DataW Unit)} {os:Os} (args:Array Value) (hp:(l.all λx=>x.2.handleName?.isNone)=true)
 (hf:(World.holding Tryd.prog os ⟨#[],#[],[]⟩).layFits Tryd.prog l []=true) (hi:(World.holding Tryd.prog os ⟨#[],#[],[]⟩).layIfaces Tryd.prog l (World.laidAll Tryd.prog os l)=true) :
 laidMetH Tryd.prog l ((World.laidAll Tryd.prog os l).forCall (λ_ _=>0) ⟨#[],args,[]⟩).memory:=by
 rw [MakeChecks.laidMetH_plain _ _ _ hp];exact laidMet_laidAll args hf hi
end Go.Proofs.YtmfcmlldnjffeaaDoor
