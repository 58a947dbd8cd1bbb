import Derived.Test.YtoldjebobgocpaaGreatPD
import Derived.Test.YtoldjebobgocpaaGreatPF
import Derived.Test.YtoldjebobgocpaaGreatPG
import Derived.Test.YtoldjebobgocpaaGreatPC
import Derived.Test.YtoldjebobgocpaaGreatMG
import Derived.Test.YtoldjebobgocpaaGreatPA
import Derived.Test.YtoldjebobgocpaaGreatNA
namespace Go.Proofs.YtoldjebobgocpaaGreat
open Go.AM
set_option maxRecDepth 20000
def chn (L:List Part):Prop:=∀ i,∀ h:i+1<L.length,L[i].kind≠L[i+1].kind
theorem DY:chn []:=λi h=>by simp at h
theorem I6 {p:Part} {L:List Part} (h:chn (p::L)):chn L/\∀ h0:0<L.length,p.kind≠L[0].kind:=by
 refine ⟨λi hi=>?_,λh0=>?_⟩
 ·have:=h (i+1) (by simp;omega)
  simpa using this
 ·have:=h 0 (by simp;omega)
  simpa using this
theorem ns {L:List Part} {p:Part} (h:chn L) (hp:∀ h:0<L.length,(L[L.length - 1]'(by omega)).kind≠p.kind):chn (L++[p]):=by
 intro i hi;simp at hi;by_cases c:i+1<L.length
 ·rw [List.getElem_append_left (by omega),List.getElem_append_left c];exact h i c
 ·have h0:0<L.length:=by omega
  have:=hp h0;rw [List.getElem_append_left (by omega),List.getElem_append_right (by omega)];have e:i=L.length - 1:=by omega
  subst e
  simpa using this
theorem Le {L:List Part} {i:Nat} {p:Part} (h:chn L) (hi:i<L.length) (hk:p.kind=L[i].kind):chn (L.set i p):=by
 intro j hj;simp at hj;have h1:=h j hj;rw [List.getElem_set,List.getElem_set]
 split
 ·rename_i e;subst e
  rw [if_neg (by omega),hk];exact h1
 ·split
  ·rename_i e;subst e;rw [hk];exact h1
  ·exact h1
def Ij (L:List Part):Prop:=∀ h:0<L.length,(L[L.length - 1]'(by omega)).kind=1
theorem t9 {L:List Part} {p:Part}:(((L++[p])[(L++[p]).length - 1]'(by simp))).kind=p.kind:=by simp
theorem w7 {L:List Part} {P:List Int} {D:Int} (h:chn L) (hl:Ij L):chn (aM L P D):=by
 unfold aM
 split
 ·split
  ·rw [List.nil_append]
   exact ns h λh0=>by rw [hl h0];simp
  ·simpa using h
 ·have h1:chn (L++[⟨2,0,P⟩]):=ns h λh0=>by rw [hl h0];simp
  split
  ·rw [<- List.append_assoc]
   exact ns h1 λh0=>by rw [t9];simp
  ·simpa using h1
theorem Ip {L:List Part} {n:Int} (h:chn L):chn (bW L n)/\Ij (bW L n):=by
 unfold bW
 split
 ·rename_i h0
  split
  ·rename_i hk
   refine ⟨Le h (by omega) hk.symm,λh1=>?_⟩;simp
  ·rename_i hk
   refine ⟨ns h λ_=>hk,λh1=>?_⟩;rw [t9]
 ·exact ⟨ns (L:=[]) DY (λh=>by simp at h),λ_=>rfl⟩
theorem wI (o:List Part):∀ (i:Nat),i<=o.length->chn (be (o.take i)).1/\Ij (be (o.take i)).1
 | 0, _ => by
   simp only [be,List.take_zero,List.foldl_nil];exact ⟨DY,λh=>by simp at h⟩
 | i + 1, hi => by
   obtain ⟨h1,h2⟩:=wI o i (by omega);rw [gL (show i<o.length by omega)];generalize be (o.take i)=s at h1 h2;unfold dF
   split
   ·exact ⟨h1,h2⟩
   ·split
    ·exact ⟨h1,h2⟩
    ·split
     ·exact Ip (w7 h1 h2)
     ·exact ⟨h1,h2⟩
theorem BW (o:List Part):chn (normal o):=by
 obtain ⟨h1,h2⟩:=wI o o.length (Nat.le_refl _);rw [List.take_length] at h1 h2;exact w7 h1 h2
def vN:At->List Part->List Part
 | .k,[]=>[⟨1,1,[]⟩]
 | .k,p::l=>if p.kind=1 then ⟨1,p.n+1,[]⟩::l else ⟨1,1,[]⟩::p::l
 | .d,[]=>[⟨3,1,[]⟩]
 | .d,p::l=>if p.kind=3 then ⟨3,p.n+1,[]⟩::l else ⟨3,1,[]⟩::p::l
 | .p c,[]=>[⟨2,0,[c]⟩]
 | .p c,p::l=>if p.kind=2 then ⟨2,0,c::p.signs⟩::l else ⟨2,0,[c]⟩::p::l
def grp (l:List At):List Part:=l.foldr vN []
theorem IE {L:List Part} (h:∀ h0:0<L.length,L[0].kind≠1):∀ n:Nat,(List.replicate (n+1) At.k).foldr vN L=⟨1,(n:Int)+1,[]⟩::L
 | 0 => by
   cases L with
   |nil=>rfl
   |cons p l=>have:=h (by simp);simp at this;simp [vN,this]
 | n + 1 => by
   rw [List.replicate_succ,List.foldr_cons,IE h n];simp [vN]
theorem IF {L:List Part} (h:∀ h0:0<L.length,L[0].kind≠3):∀ n:Nat,(List.replicate (n+1) At.d).foldr vN L=⟨3,(n:Int)+1,[]⟩::L
 | 0 => by
   cases L with
   |nil=>rfl
   |cons p l=>have:=h (by simp);simp at this;simp [vN,this]
 | n + 1 => by
   rw [List.replicate_succ,List.foldr_cons,IF h n];simp [vN]
theorem ID {L:List Part} (h:∀ h0:0<L.length,L[0].kind≠2):∀ (Q:List Int) (c:Int),((c::Q).map At.p).foldr vN L=⟨2,0,c::Q⟩::L
 | [], c => by
   cases L with
   |nil=>rfl
   |cons p l=>have:=h (by simp);simp at this;simp [vN,this]
 | d :: Q, c => by
   rw [List.map_cons,List.foldr_cons,ID h Q d];simp [vN]
theorem wY:∀ {L:List Part},(∀ q∈L,Shp q)->chn L->grp (aV L)=L
 | [],_,_=>rfl
 | p :: L, hs, hc => by
   obtain ⟨h1,h2⟩:=I6 hc;have ih:=wY (λq hq=>hs q (List.mem_cons_of_mem _ hq)) h1;have hp:=hs p (List.mem_cons_self ..);unfold grp at ih ⊢;rw [aV,List.foldr_append,ih];have hpos:=hp.pos;have hn:=hp.n;unfold ats;obtain ⟨kd,n,sg⟩:=p;by_cases k2:kd=2
   ·subst k2
    obtain ⟨e1,-⟩:=hp.put rfl;simp only at e1;subst e1;simp only [if_true]
    cases sg with
    |nil=>simp [psz] at hpos
    |cons c Q=>exact ID (λh0=>by have:=h2 h0;simpa using this.symm) Q c
   ·have e1:=hp.run k2
    simp only at e1 hn;subst e1;have hz:psz ⟨kd,n,[]⟩=n.toNat:=by simp [psz]
    rw [hz] at hpos;obtain ⟨m,hm⟩:∃ m,n.toNat=m+1:=⟨n.toNat - 1,by omega⟩;have hnm:n=(m:Int)+1:=by omega
    rw [hz,hm,if_neg k2];by_cases k3:kd=3
    ·subst k3
     simp only [if_true];rw [IF (λh0=>by have:=h2 h0;simpa using this.symm),hnm]
    ·have k1:kd=1:=by rcases hp.k with h|h|h<;>simp only at h<;>omega
     subst k1;rw [if_neg (by simp),IE (λh0=>by have:=h2 h0;simpa using this.symm),hnm]
theorem Ae:∀ (l:List At) (P:List Int) (n:Nat),nA [] 0 (nA P n l)=nA P n l
 | [], P, n => by
   have h2:=DD n P 0 [];rw [List.append_nil,Nat.zero_add] at h2;rw [nA,DB,List.nil_append,h2,nA]
 | .k :: l, P, n => by
   rw [nA,DB,DD,List.nil_append,Nat.zero_add,nA,Ae l]
 | .p c::l,P,n=>by rw [nA,Ae l]
 | .d::l,P,n=>by rw [nA,Ae l]
theorem lX {o:List Part} (h:∀ p∈o,ar p):normal o=grp (mA (aV o)):=by
 rw [<- iF h,wY (tU h) (BW o)]
theorem vA {o:List Part} (h:bR o):normal (normal o)=normal o:=by
 have h2:=(q6 h).1;rw [lX h2.1.1,iF h.1.1,lX h.1.1];unfold mA;rw [Ae]
theorem vD {o:List Part} (h:bR o):gD (normal o):=by
 have h2:=(q6 h).1;refine ⟨h2,?_⟩;unfold ca;rw [if_pos h2,vA h]
theorem vC {o:List Part} (h:bR o):gD (ca o):=by
 have e:ca o=normal o:=by unfold ca;rw [if_pos h]
 rw [e];exact vD h
theorem tO:∀ (l:List (List Part)) (v v':List Part),gD v->jw l v=some v'->gD v'
 | [],v,v',h,e=>by simp only [jw,Option.some.injEq] at e;exact e ▸ h
 | a :: l, v, v', h, e => by
   rw [jw] at e
   split at e
   ·rename_i ht
    refine tO l _ v' ?_ e;unfold aE at ht ⊢
    split at ht
    ·rename_i h1
     split at ht
     ·rename_i h2
      rw [if_pos h1,if_pos h2];have hi:=sM h1.1 h1.2.1 h1.2.2;have hk:=LK hi;simp only;refine ⟨h2.2,?_⟩;unfold ca;rw [if_pos h2.2,lX h2.2.1.1,iF hk.2];unfold mA;rw [Ae];exact (lX hk.2).symm
     ·simp at ht
    ·simp at ht
   ·cases e
theorem CG {l:List (List Part)} {b:List Part} (h:(gR l b).2=true):gD (gR l b).1:=by
 unfold gR at h ⊢
 split at h
 ·rename_i hb
  rw [if_pos hb]
  cases e:jw l (ca b) with
  |none=>rw [e] at h;simp at h
  |some v=>exact tO l _ v (vC hb) e
 ·simp at h
theorem mi {d:Doc} (h:aN d) (e:Entry):ac (bc d e)=ac d+1/\(bc d e).list.getLast? = some e:=by
 obtain ⟨h1,h2,h3,h4⟩:=aX h;unfold bc
 split
 ·refine ⟨?_,by simp⟩
  unfold ac;simp only [List.length_append,List.length_cons,List.length_nil];rw [Go.IntWalk.i64_in _ (by omega),Go.IntWalk.i64_in _ (by omega)];omega
 ·refine ⟨?_,?_⟩
  ·unfold ac
   simp only [List.length_append,List.length_cons,List.length_nil,List.length_drop];rw [Go.IntWalk.i64_in _ (by omega),Go.IntWalk.i64_in _ (by omega)];omega
  ·have hl:d.list.length=8:=by omega
   rw [List.getLast?_drop];rw [if_neg (by rw [List.length_append,List.length_singleton];omega)];simp
theorem lv {α:Type} {R:α->α->Prop} (tr:∀ a b c,R a b->R b c->R a c):∀ {l:List α},(∀ i,∀ h:i<l.length,∀ h0:0<i,R (l[i - 1]'(by omega)) l[i])->l.Pairwise R
 | [],_=>.nil
 | [a],_=>by simp
 | a :: b :: l, h => by
   have ih:=lv tr (l:=b::l) (λi hi h0=>by
    have:=h (i+1) (by simp at hi ⊢;omega) (by omega);obtain ⟨j,rfl⟩:∃ j,i=j+1:=⟨i - 1,by omega⟩
    simpa using this)
   have hab:R a b:=by have:=h 1 (by simp) (by omega);simpa using this
   refine List.pairwise_cons.2 ⟨λc hc=>?_,ih⟩;rcases List.mem_cons.1 hc with rfl|hc
   ·exact hab
   ·exact tr _ _ _ hab ((List.pairwise_cons.1 ih).1 c hc)
theorem oj {α:Type} {R:α->α->Prop} {l:List α} (h:l.Pairwise R):∀ i,∀ h:i<l.length,∀ h0:0<i,R (l[i - 1]'(by omega)) l[i]:=
 λi hi h0=>(List.pairwise_iff_getElem.1 h) (i - 1) i (by omega) hi (by omega)
def Q4 (R:Int) (s:Seen):Prop:=(1<=s.client/\s.client<=8)/\(1<=s.seq/\s.seq<=1000000000)/\(1<=s.rev/\s.rev<=R)
theorem rO {d:Doc}:pK d ↔ (∀ s∈d.seen,Q4 (ac d) s)/\d.seen.Pairwise λa b=>a.client<b.client:=by
 constructor
 ·intro h
  refine ⟨λs hs=>?_,lv (R:=λa b:Seen=>a.client<b.client) (λ_ _ _=>Int.lt_trans) λi hi h0=>(h i hi).2.2.2 h0⟩;obtain ⟨i,hi,rfl⟩:=List.getElem_of_mem hs;obtain ⟨h1,h2,h3,-⟩:=h i hi;exact ⟨h1,h2,h3⟩
 ·rintro ⟨h1,h2⟩ i hi
  obtain ⟨a,b,c⟩:=h1 _ (List.getElem_mem hi);exact ⟨a,b,c,λh0=>oj h2 i hi h0⟩
theorem mO {c s r:Int}:∀ {l:List Seen} {x:Seen},x∈bk c s r l->x=⟨c,s,r⟩\/x∈l
 | [],x,h=>by simp [bk] at h;exact .inl h
 | y :: l, x, h => by
   unfold bk at h
   split at h
   ·rcases List.mem_cons.1 h with h|h
    ·exact .inr (by simp [h])
    ·rcases mO h with h|h
     ·exact .inl h
     ·exact .inr (List.mem_cons_of_mem _ h)
   ·split at h
    ·rcases List.mem_cons.1 h with h|h
     ·exact .inl h
     ·exact .inr (List.mem_cons_of_mem _ h)
    ·rcases List.mem_cons.1 h with h|h
     ·exact .inl h
     ·exact .inr h
theorem tE {c s r:Int}:∀ {l:List Seen},(l.Pairwise λa b=>a.client<b.client)->(bk c s r l).Pairwise λa b=>a.client<b.client
 | [],_=>by simp [bk]
 | y :: l, h => by
   obtain ⟨h1,h2⟩:=List.pairwise_cons.1 h;unfold bk
   split
   ·rename_i hc
    refine List.pairwise_cons.2 ⟨λx hx=>?_,tE h2⟩;rcases mO hx with rfl|hx
    ·exact hc
    ·exact h1 x hx
   ·split
    ·rename_i hc
     exact List.pairwise_cons.2 ⟨λx hx=>by have:=h1 x hx;simp only;omega,h2⟩
    ·refine List.pairwise_cons.2 ⟨λx hx=>?_,h⟩
     rcases List.mem_cons.1 hx with rfl|hx
     ·simp only;omega
     ·have:=h1 x hx;simp only;omega
theorem CN {d:Doc} (h:aN d) {e:Entry} (he:br e) (hf:jg e.o (cY d)) (hr:ac d<999999000):aN (bc d e):=by
 have hh:=aX h;have hp:=(mi h e).1;obtain ⟨t1,t2⟩:=oO h;obtain ⟨g1,g2,g3,g4,g5,g6,g7⟩:=h
 have hap:(aA ((d.list++[e]).map Entry.o) d.text).isSome=true:=by
  rw [List.map_append,gh,t1];simp only [Option.bind_some,List.map_cons,List.map_nil,aA];rw [if_pos (jR.2 hf)];rfl
 have hse:pK (bc d e):=by
  rw [rO,hp];obtain ⟨s1,s2⟩:=rO.1 g7;have e1:(bc d e).seen=bk e.client e.seq (ac d+1) d.seen:=by unfold bc;split<;>rfl
  rw [e1];refine ⟨λx hx=>?_,tE s2⟩;rcases mO hx with rfl|hx
  ·exact ⟨he.1,he.2.1,by simp only;omega⟩
  ·obtain ⟨a,b,c⟩:=s1 x hx
   exact ⟨a,b,by omega⟩
 have hen:∀ x∈d.list++[e],br x:=λx hx=>by
  rcases List.mem_append.1 hx with hx|hx
  ·exact g5 x hx
  ·simp at hx;subst hx;exact he
 unfold bc at hse ⊢
 split
 ·rename_i hl
  rw [if_pos hl] at hse;exact ⟨g1,g2,g3,by simp;omega,hen,hap,hse⟩
 ·rename_i hl
  rw [if_neg hl] at hse
  obtain ⟨x,l',hx⟩:∃ x l',d.list++[e]=x::l':=by
   cases hd:d.list++[e] with
   |nil=>simp at hd
   |cons x l'=>exact ⟨x,l',rfl⟩
  have hlen:l'.length=d.list.length:=by have:=congrArg List.length hx;simp at this;omega
  simp only [hx] at hse hap hen ⊢;simp only [List.getElem_cons_zero,List.drop_one,List.tail_cons] at hse ⊢;rw [List.map_cons,aA] at hap
  split at hap
  ·rename_i ha
   exact ⟨g1,by simp only;omega,(jO (jR.1 ha)).1,by simp only;omega,λy hy=>hen y (List.mem_cons_of_mem _ hy),hap,hse⟩
  ·simp at hap
theorem yJ (d:Doc) (e:Entry):(bc d e).name=d.name:=by unfold bc;split<;>rfl
theorem oP {d:Doc} {client seq base:Int} {o:List Part} (h:aN d) (hc:(bD d client seq base o).2.2=0) :
 aN (bD d client seq base o).1/\(bD d client seq base o).1.name=d.name/\((bD d client seq base o).1=d\/
  ∃ e,br e/\e.client=client/\e.seq=seq/\(bD d client seq base o).1=bc d e/\jg e.o (cY d)/\ac d<999999000):=by
 unfold bD at hc ⊢
 split at hc
 ·rename_i hs
  rw [if_pos hs]
  split at hc
  ·rename_i h1
   rw [if_pos h1];exact ⟨h,rfl,.inl rfl⟩
  ·rename_i h1
   rw [if_neg h1]
   split at hc
   ·rename_i h2
    rw [if_pos h2]
    split at hc
    ·rename_i h3
     rw [if_pos h3]
     split at hc
     ·simp at hc
     ·rename_i h4
      rw [if_neg h4]
      have key:gD (cG d base o).1/\jg (cG d base o).1 (cY d):=by
       unfold cG at h3 ⊢
       split at h3
       ·rename_i c1
        rw [if_pos c1]
        split at h3
        ·simp at h3
        ·rename_i c2
         rw [if_neg c2]
         split at h3
         ·simp at h3
         ·rename_i c3
          rw [if_neg c3]
          split at h3
          ·rename_i c4
           rw [if_pos c4]
           split at h3
           ·rename_i c5
            rw [if_pos c5];exact ⟨CG c5,qi c1.1 c1.2 (by omega) (by omega) c4 c5⟩
           ·simp at h3
          ·simp at h3
       ·simp at h3
      have he:br ⟨client,seq,(cG d base o).1⟩:=⟨hs.2.1,hs.2.2.1,key.1⟩;exact ⟨CN h he key.2 (by omega),yJ _ _,.inr ⟨_,he,rfl,rfl,rfl,key.2,by omega⟩⟩
    ·rename_i h3;exact absurd hc h3
   ·simp at hc
 ·simp at hc
theorem uu {d:Doc} {client seq base:Int} {o:List Part} (h:aN d) (hc:(bD d client seq base o).2.2=0) :
 (bD d client seq base o).1=d\/∃ e,ac (bD d client seq base o).1=ac d+1/\(bD d client seq base o).1.list.getLast? = some e:=by
 obtain ⟨-,-,h1|⟨e,-,-,-,h2,-⟩⟩:=oP h hc
 ·exact .inl h1
 ·rw [h2];exact .inr ⟨e,mi h e⟩
set_option maxHeartbeats 6400000
theorem EH {l:List Doc} {row:List CD} (h:row∈l.map Doc.row):row.length=5:=by
 rw [List.mem_map] at h;obtain ⟨a,-,rfl⟩:=h;rfl
theorem Fq {l:List Doc} {k:Nat}:cut (l.map Doc.row) 0 k=(l.take k).map Doc.row:=by rw [cQ,List.drop_zero,List.map_take]
theorem Fr {l:List Doc} {k:Nat}:cut (l.map Doc.row) k (l.length - k)=(l.drop k).map Doc.row:=by
 rw [cQ,List.map_drop,List.take_of_length_le (by simp)]
noncomputable def fG (name:ByteArray) (e:Entry) (l:List Sub) (i:Nat):List Sub:=(l.take i).map (di name e)++l.drop i
theorem rI (name:ByteArray) (e:Entry) (l:List Sub):fG name e l 0=l:=by simp [fG]
theorem tf (name:ByteArray) (e:Entry) (l:List Sub):fG name e l l.length=l.map (di name e):=by simp [fG]
theorem o4 (name:ByteArray) (e:Entry) (l:List Sub) (i:Nat):(fG name e l i).length=l.length:=by simp [fG];omega
theorem qR {name:ByteArray} {e:Entry} {l:List Sub} {i:Nat} (h:i<l.length):(fG name e l i)[i]'(by rw [o4];exact h)=l[i]:=by
 unfold fG;rw [List.getElem_append_right (by simp;omega)];simp [Nat.min_eq_left (Nat.le_of_lt h)]
theorem oZ {name:ByteArray} {e:Entry} {l:List Sub} {i:Nat} (h:i<l.length):(fG name e l i).set i (di name e l[i])=fG name e l (i+1):=by
 unfold fG;rw [List.set_append_right _ _ (by simp;omega),List.drop_eq_getElem_cons h];simp only [List.length_map,List.length_take,Nat.min_eq_left (Nat.le_of_lt h),Nat.sub_self,List.set_cons_zero];rw [<- List.take_append_getElem h,List.map_append];simp
theorem rJ {name:ByteArray} {e:Entry} {l:List Sub} {i:Nat} (h:i<l.length) (hn:¬ l[i].doc=name):fG name e l i=fG name e l (i+1):=by
 rw [<- oZ h];have:di name e l[i]=l[i]:=by unfold di;rw [if_neg hn]
 rw [this];refine List.ext_getElem (by simp) (λj h1 h2=>?_);rw [List.getElem_set]
 split
 ·rename_i ej;subst ej;exact qR h
 ·rfl
theorem iR (h:Hub) (hl:bX h<=2 ^ 28) (name:ByteArray) (hs:name.size<=2 ^ 28) (t:List Int) (ht:t.length<=2 ^ 28):ai Tryz.prog 203 [.agg h.row,.c (.v (.string name)),.c (.s (t.map ak))]
 (.tup [.agg (aY h name t).1.res,.c (vi (aY h name t).2) 1]):=by
 refine pci ae Tryz.func203 (λw0 base=>?_);have hld:=aB (fB hl).1;have hdn:=xK name t hs ht;unfold fC at hdn;simp [Hub.row];intro b3 b6;by_cases c0:aN (dM name t)
 rotate_left
 ·rw [if_neg c0] at hdn
  refine aa.pure hdn (by simp) ?_;simp [Doc.res,Doc.zero];intros;refine aa.pure (dt h (by omega)) (by simp [Hub.row]) ?_;by_cases c1:ao h
  ·simp [c1,gT (λh=>c0 h.2),Hub.res,Hub.zero]
  ·simp [ab c1,gT (λh=>c0 h.2),Hub.res,Hub.zero]
 rw [if_pos c0] at hdn;refine aa.pure hdn (by simp) ?_;simp [Doc.res,dM];intro H1 H2 H3 b8;refine aa.pure (dt h (by omega)) (by simp [Hub.row]) ?_;by_cases c1:ao h
 rotate_left
 ·simp [ab c1,gT (λh=>c1 h.1),Hub.res,Hub.zero]
 simp [c1]
 cases c2:h.shut with
 |true=>simp [oS ⟨c1,c0⟩ c2,Hub.res,Hub.zero]
 |false=>
 have c2':¬ h.shut=true:=by rw [c2];simp
 simp;refine aa.pure (cF h (by omega) name) (by simp [Hub.row,c2]) ?_;simp;by_cases c3:0<=az h.docs name
 ·simp [c3,oT ⟨c1,c0⟩ c2' c3,Hub.res,Hub.zero]
 simp [c3];by_cases c4:h.docs.length=5
 ·have c4':(h.docs.length:Int)=5:=by omega
  simp [c4',oU ⟨c1,c0⟩ c2' c3 c4,Hub.res,Hub.zero]
 have c4':¬ (h.docs.length:Int)=5:=by omega
 have hat:=ql ⟨c1,c0⟩ c2' c3 c4;rw [oc] at hat;have hal:=nn (dM name t).name h.docs;have hon:=λ{k:Nat} h1 h2=>np (name:=(dM name t).name) (l:=h.docs) (k:=k) h1 h2
 rw [show (dM name t).name=name from rfl] at hat hal hon;generalize dI name h.docs=a at hat hal hon;simp [c4'];refine aa.pure (bY h (by omega)) (by simp [Hub.row,c2]) ?_;simp [Hub.res,c2];intro K1 K2 b10
 refine ag eok (λk:Nat=>k<=a) (λk=>⟨81,0,[(11,.v (.int .i64 k)),(1,.v (.string name)),(6,.p 96 b6 0),(8,.p 128 b8 0),(10,.p 160 b10 0)],
  [(160, .vars b10 35 [.v (.bool false), .sl 721 K1 5 0 h.docs.length, .sl 722 K2 6 0 h.subs.length, .v (.int .i64 h.last)]), (96, .vars b6 35 [.v (.bool false), .nil, .nil, .v (.int .i64 0)]),
   (128,.vars b8 89 [.v (.string name),.v (.int .i64 0),.sl 258 H1 1 0 t.length,.sl 259 H2 3 0 0,.sl 260 H3 3 0 0]),
   (258,.rows H1 1 (t.map ak) true),(259,.rows H2 3 [] true),(260,.rows H3 3 [] true),
   (721,.rows K1 5 (h.docs.map Doc.row) true),(722,.rows K2 6 (h.subs.map Sub.row) true)]⟩) (λk=>h.docs.length - k) 0 (by simp) (by simp) (λk hk=>Ent.refl ?_)
 by_cases hlt:k<h.docs.length
 ·obtain ⟨x,hx⟩:∃ x,h.docs[k]=x:=⟨_,rfl⟩
  have hiff:=hon hk hlt;rw [hx] at hiff;simp [hlt,hx,Doc.row];by_cases s:sLt x.name name
  ·simp [s]
   exact Ent.refl ⟨k+1,by have:=hiff.1 s;omega,by omega,by simp;exact ah (by omega)⟩
  have hka:k=a:=by
   have:¬ k<a:=λh=>s (hiff.2 h)
   omega
  subst hka;have hm:min k h.docs.length=k:=by omega
  simp [ab s,Fq,Fr,hat,c2,hm,dM];refine ⟨by omega,by omega,by omega,by omega,by omega,by omega,by omega,?_,?_⟩
  ·rintro row (h|rfl|h)
   ·exact EH (List.mem_of_mem_take h)
   ·rfl
   ·exact EH (List.mem_of_mem_drop h)
  ·rw [qw (by simp [hm];omega)]
   rfl
 have hka:k=h.docs.length:=by omega
 have hka2:a=h.docs.length:=by omega
 subst hka2;have hm:min k h.docs.length=k:=by omega
 subst hka;have hz:cut (h.docs.map Doc.row) h.docs.length 0=[]:=by rw [cQ];simp
 simp [hat,c2,dM,hz];refine ⟨by omega,by omega,?_,?_⟩
 ·rintro row (⟨a,-,rfl⟩|rfl)<;>rfl
 ·rfl
theorem d7 (h:Hub) (hl:bX h<=2 ^ 28) (name:ByteArray) (client seq base:Int) (o:List Part) (ho:nL aH o<=2 ^ 40) :
 ai Tryz.prog 264 [.agg h.row,.c (.v (.string name)),.c (vi client),.c (vi seq),.c (vi base),.c (.s (o.map Part.row))]
 (.tup [.agg (aF h name client seq base o).1.res,.c (vi (aF h name client seq base o).2.1) 1,.c (vi (aF h name client seq base o).2.2) 1]):=by
 refine pci ae Tryz.func264 (λw0 bs=>?_);have hls:=aB (fB hl).2;simp [Hub.row];intro b6 b12;refine aa.pure (cF h (by omega) name) (by simp [Hub.row]) ?_;simp;refine aa.pure (dt h (by omega)) (by simp [Hub.row]) ?_;by_cases c1:ao h
 rotate_left
 ·simp [ab c1,ld c1,Hub.res,Hub.zero]
 simp [c1]
 cases c2:h.shut with
 |true=>simp [jq c1 c2,Hub.res,Hub.zero]
 |false=>
 have c2':¬ h.shut=true:=by rw [c2];simp
 simp;rcases bJ h.docs name with ⟨k,hk,e,-⟩|e;rotate_left
 ·simp [e,jr c1 c2' e,Hub.res,Hub.zero]
 have hk0:¬ (k:Int)<0:=by omega
 have hat:=lg (client:=client) (seq:=seq) (base:=base) (o:=o) c1 c2' hk e;have hdn:=dO (f:=cq) (fB hl).1 hk;have hdo:=cA c1 hk;have hDn:=rt (client:=client) (seq:=seq) (base:=base) (o:=o) hdo;have hok:=uu (client:=client) (seq:=seq) (base:=base) (o:=o) hdo;obtain ⟨d,hd⟩:∃ d,h.docs[k]=d:=⟨_,rfl⟩;rw [hd] at hat hdn hDn hok;have hc:=xD d hdn client seq base o ho;generalize bD d client seq base o=S at hc hat hDn hok;obtain ⟨D,rev,code⟩:=S;simp only at hc hat hDn hok;simp [e,hk0,hk,hd,Doc.row];refine aa.pure hc (by simp [Doc.row]) ?_;simp [Doc.res];intro H1 H2 H3 b16;by_cases c3:code=0
 rotate_left
 ·rw [if_neg c3] at hat
  simp [c3,hat,Hub.res,Hub.zero]
 rw [if_pos c3] at hat;have hok:=hok c3;simp [c3];refine aa.pure (bY h (by omega)) (by simp [Hub.row,c2]) ?_;simp [Hub.res,c2,hk];intro K1 K2 b19;refine drw eok mix [0,2,3,4,5,6] [1,7,8] (.c 6 1 32 31 (.c 6 7 1 30 (.c 6 8 0 30 (.l 6 30) .s) .s) .s) ?_;simp [hk,hd,Doc.row]
 try intros
 refine aa.pure (aO D) (by simp [Doc.row,Doc.row]) ?_;simp
 try intros
 refine aa.pure (aO d) (by simp [Doc.row,Doc.row]) ?_;simp
 try intros
 by_cases c5:ac D=ac d
 ·have hcm:cB h name k d D=⟨h.shut,h.docs.set k D,h.subs,h.last⟩:=by unfold cB;rw [if_neg (by omega)]
  rw [hcm] at hat;simp [c5,hat,c2];exact ⟨nJ,rfl⟩
 rcases hok with rfl|⟨e,he1,he2⟩
 ·exact absurd rfl c5
 have hcm:cB h name k d D=⟨h.shut,h.docs.set k D,h.subs.map (di name e),h.last⟩:=by unfold cB;rw [if_pos (by omega),he2]
 rw [hcm] at hat;have hmem:e∈D.list:=List.mem_of_getLast? he2;have hpos:0<D.list.length:=List.length_pos_of_mem hmem;obtain ⟨m,hm⟩:∃ m,D.list.length=m+1:=⟨D.list.length - 1,by omega⟩;have hml:m<D.list.length:=by omega
 have hme:D.list[m]=e:=by
  rw [List.getLast?_eq_getElem?,hm,Nat.add_sub_cancel,List.getElem?_eq_getElem hml] at he2;exact Option.some.inj he2
 have hDl:nL aS D.list<=2 ^ 24:=by unfold cq at hDn;omega
 have hen:=cU (f:=aS) hDl hmem;have hlen24:=aB hDl;have ew:Go.IntKind.i64.wrap ((D.list.length:Int) - 1)=(m:Int):=by rw [Go.IntWalk.i64_in _ (by omega)];omega
 have em:Go.IntKind.i64.wrap (m:Int)=m:=eJ (by omega);simp [c5,hm,em,hme,Entry.row];refine ⟨by omega,λb20=>?_⟩
 refine ag eok (λi:Nat=>i<=h.subs.length) (λi=>⟨107,0,[(86,.v (.int .i64 i)),(85,.v (.int .i64 h.subs.length)),(84,.sl 930 K2 6 0 h.subs.length),(19,.p 304 b19 0),(20,.p 320 b20 0),(17,.v (.int .i64 rev)),(1,.v (.string name)),(12,.p 192 b12 0)],
  [(304, .vars b19 35 [.v (.bool false), .sl 929 K1 5 0 h.docs.length, .sl 930 K2 6 0 h.subs.length, .v (.int .i64 h.last)]), (192, .vars b12 35 [.v (.bool false), .nil, .nil, .v (.int .i64 0)]),
   (320,.vars b20 151 [.v (.int .i64 e.client),.v (.int .i64 e.seq),.ro (e.o.map Part.row)]),
   (929,.rows K1 5 ((h.docs.set k D).map Doc.row) true),(930,.rows K2 6 ((fG name e h.subs i).map Sub.row) true)]⟩) (λi=>h.subs.length - i) 0 (by simp) (by simp [rI];rfl) (λi hi=>Ent.refl ?_)
 have htl:=o4 name e h.subs i;by_cases hlt:i<h.subs.length
 ·have hti:=qR (name:=name) (e:=e) hlt
  have hlt':i<(fG name e h.subs i).length:=by omega
  have hsk:=rJ (name:=name) (e:=e) hlt;have hsu:=oZ (name:=name) (e:=e) hlt;have hmd:=nS hlt' (bZ h.subs[i].r e);have hmn:=dO (f:=dX) (fB hl).2 hlt;unfold dX at hmn;rw [hti] at hmd;obtain ⟨s,hs⟩:∃ s,h.subs[i]=s:=⟨_,rfl⟩;rw [hs] at hti hsk hsu hmd hmn;simp [hlt,htl,hti,Sub.row];intro b22;by_cases c6:s.doc=name
  rotate_left
  ·simp [c6]
   refine Ent.refl ⟨i+1,by omega,by omega,?_⟩;rw [<- hsk c6];simp;exact ah (by omega)
  have htell:di name e s=⟨s.id,s.doc,bZ s.r e⟩:=by unfold di;rw [if_pos c6]
  rw [htell] at hsu;rw [hsu] at hmd;have hpc:=tv s.r (by omega) e (by omega);generalize bZ s.r e=R at hpc hmd;simp [c6];refine drw eok mix [0,1,2,3,4,5,7,8] [6,9] (.c 8 6 12 243 (.c 8 9 241 2 (.l 8 2) .s) .s) ?_;simp [hlt]
  try intros
  refine aa.pure (hpc) (by simp [Ring.row,Entry.row]) ?_;simp [Ring.res,hlt,htl]
  try intros
  refine Ent.refl ⟨i+1,by omega,by omega,?_⟩;rw [<- hmd];simp;exact ah (by omega)
 have hie:i=h.subs.length:=by omega
 subst hie;rw [tf];simp [hat,c2];exact nJ
theorem aP (k:Int):ai Tryz.prog 78 [.c (vi k)] (.one (.c (vb (aJ k)) 1)):=by
 refine pci ae Tryz.func78 (λw0 base=>?_);simp;refine aa.pure (aR k 1 5) (by simp) ?_;simp [aJ]
theorem mL (k:Int):ai Tryz.prog 69 [.c (vi k)] (.one (.c (vb (aJ k)) 1)):=by
 refine pci ae Tryz.func69 (λw0 base=>?_);simp;refine aa.pure (ba k 1 5) (by simp) ?_;simp [aJ]
theorem By (k:Int):ai Tryz.prog 207 [.c (vi k)] (.one (.c (vb (1<=k/\k<=8)) 1)):=by
 refine pci ae Tryz.func207 (λw0 base=>?_);simp;refine aa.pure (ba k 1 8) (by simp) ?_;simp
theorem aG (a b:Call) (ha:dv a<=2 ^ 40):ai Tryz.prog 215 [.agg a.row,.agg b.row] (.one (.c (vb (a=b)) 1)):=by
 refine pci ae Tryz.func215 (λw0 base=>?_);obtain ⟨a0,a1,a2,a3,a4,a5,a6⟩:=a;obtain ⟨c0,c1,c2,c3,c4,c5,c6⟩:=b;unfold dv at ha;simp only at ha;simp [Call.row];intro b1 b2;by_cases h0:a0=c0
 rotate_left
 ·simp [h0]
 subst h0;by_cases h1:a1=c1
 rotate_left
 ·simp [h1]
 subst h1;by_cases h2:a2=c2
 rotate_left
 ·simp [h2]
 subst h2;by_cases h3:a3=c3
 rotate_left
 ·simp [h3]
 subst h3;by_cases h4:a4=c4
 rotate_left
 ·simp [h4]
 subst h4;simp;refine aa.pure (l9 a5 c5 (by omega)) (by simp) ?_;by_cases h5:a5=c5
 rotate_left
 ·simp [h5]
 subst h5;simp;refine aa.pure (lu a6 c6 (by omega)) (by simp) ?_;by_cases h6:a6=c6
 ·simp [h6]
 ·simp [h6]
theorem jK (c:Call) (hl:dv c<=2 ^ 36):ai Tryz.prog 114 [.agg c.row] (.one (.c (vb (bp c)) 1)):=by
 refine pci ae Tryz.func114 (λw0 base=>?_);have hu:=@A1 c;have hx:∀ p:Prop,(bp c->p)->¬ p->dc (bp c)=false:=λp h1 h2=>ab (λh=>h2 (h1 h))
 have hl0:=hl;unfold dv at hl;simp [Call.row];intro b1;refine drw eok mix [0,1] [2,3,4,5,6,7,8,9,10,11,12,13,14,15,16,17,18,19,20,21,22,23,24,25] (.c 2 2 1 2 (.c 2 3 0 2 (.c 2 4 0 2 (.c 2 5 0 2 (.c 2 6 0 2 (.c 2 7 0 2 (.c 2 8 0 2 (.c 2 9 0 2 (.c 2 10 0 2 (.c 2 11 0 2 (.c 2 12 0 2 (.c 2 13 0 2 (.c 2 14 0 2 (.c 2 15 0 2 (.c 2 16 0 2 (.c 2 17 0 2 (.c 2 18 0 2 (.c 2 19 0 2 (.c 2 20 0 2 (.c 2 21 0 2 (.c 2 22 0 2 (.c 2 23 0 2 (.c 2 24 0 2 (.c 2 25 2 0 (.l 2 0) .s) .s) .s) .s) .s) (.c 2 21 0 2 (.c 2 20 0 2 (.c 2 22 0 2 (.c 2 23 0 2 (.c 2 24 0 2 (.c 2 25 2 0 (.l 2 0) .s) .s) .s) .s) (.c 2 22 0 2 (.c 2 20 0 2 (.c 2 23 0 2 (.c 2 24 0 2 (.c 2 25 2 0 (.l 2 0) .s) .s) .s) .s) .s)) .s)) .s) .s) .s) .s) .s) .s) .s) .s) .s) .s) .s) .s) .s) .s) .s) .s) .s) .s) ?_;simp;refine aa.pure (aR c.kind 1 8) (by simp) ?_;by_cases s1:1<=c.kind/\c.kind<=8
 rotate_left
 ·simp [ab s1]
  rw [Trc];refine ⟨?_,?_⟩
  ·simp [hx _ (λh=>h.1) s1]
  ·simp
   rw [Trc];refine ⟨?_,?_⟩
   ·simp [hx _ (λh=>h.1) s1]
   ·simp [hx _ (λh=>h.1) s1]
 simp [s1];by_cases s2:c.doc.size<=8
 rotate_left
 ·have s2':¬ (c.doc.size:Int)<=8:=by omega
  simp [s2'];rw [Trc];refine ⟨?_,?_⟩
  ·simp [hx _ (λh=>h.2.1) s2]
  ·simp
   rw [Trc];refine ⟨?_,?_⟩
   ·simp [hx _ (λh=>h.2.1) s2]
   ·simp [hx _ (λh=>h.2.1) s2]
 have s2':(c.doc.size:Int)<=8:=by omega
 simp [s2'];refine aa.pure (kW c.o (by omega)) (by simp) ?_;by_cases s3:dj c.o
 rotate_left
 ·simp [ab s3]
  rw [Trc];refine ⟨?_,?_⟩
  ·simp [hx _ (λh=>h.2.2.1) s3]
  ·simp
   rw [Trc];refine ⟨?_,?_⟩
   ·simp [hx _ (λh=>h.2.2.1) s3]
   ·simp [hx _ (λh=>h.2.2.1) s3]
 simp [s3];refine aa.pure (il c.text (by omega)) (by simp) ?_;by_cases s4:cO c.text
 rotate_left
 ·simp [ab s4]
  rw [Trc];refine ⟨?_,?_⟩
  ·simp [hx _ (λh=>h.2.2.2.1) s4]
  ·simp
   rw [Trc];refine ⟨?_,?_⟩
   ·simp [hx _ (λh=>h.2.2.2.1) s4]
   ·simp [hx _ (λh=>h.2.2.2.1) s4]
 have fin:∀ u,aC c=u->vb (c=u)=vb (bp c):=λu h=>by
  subst h;unfold vb
  congr 3
  apply propext
  exact ⟨λh=>hu.2 ⟨s1,s2,s3,s4,h⟩,λh=>(hu.1 h).2.2.2.2⟩
 simp [s4];rw [Trc];refine ⟨?_,?_⟩
 ·simp
  refine inl ae Tryz.func216 20000 (λw1 F=>?_);simp;intro g1 g2 g3;by_cases k1:c.kind=1
  ·have h:aJ 1:=by unfold aJ;omega
   have hu:aC c=⟨1,c.doc,0,0,0,[],c.text⟩:=by simp [aC,k1,h]
   simp [k1];refine aa.pure (aP 1) (by simp) ?_;simp [h];refine aa.pure (aG c ⟨1,c.doc,0,0,0,[],c.text⟩ (by omega)) (by simp [Call.row,k1]) ?_;rw [fin _ hu];simp
  by_cases k2:c.kind=2
  ·have h:aJ 2:=by unfold aJ;omega
   have hu:aC c=⟨2,c.doc,c.client,c.seq,c.n,c.o,[]⟩:=by simp [aC,k2,h]
   simp [k2];refine aa.pure (aP 2) (by simp) ?_;simp [h];refine drw eok mix [0,1,2,3,4,5,6,7,8,10,12,14] [9,11,13,15] (.c 12 9 3080 1015 (.c 12 11 772 243 (.c 12 13 194 49 (.c 12 15 49 0 (.l 12 0) .s) .s) .s) .s) ?_;simp
   try intros
   refine aa.pure (aG c ⟨2,c.doc,c.client,c.seq,c.n,c.o,[]⟩ (by omega)) (by simp [Call.row,k2]) ?_;rw [fin _ hu];simp
  by_cases k3:c.kind=3
  ·have h:aJ 3:=by unfold aJ;omega
   have hu:aC c=⟨3,c.doc,0,0,c.n,[],[]⟩:=by simp [aC,k3,h]
   simp [k3];refine aa.pure (aP 3) (by simp) ?_;simp [h];refine aa.pure (aG c ⟨3,c.doc,0,0,c.n,[],[]⟩ (by omega)) (by simp [Call.row,k3]) ?_;rw [fin _ hu];simp
  by_cases k4:c.kind=4
  ·have h:aJ 4:=by unfold aJ;omega
   have hu:aC c=⟨4,c.doc,0,0,0,[],[]⟩:=by simp [aC,k4,h]
   simp [k4];refine aa.pure (aP 4) (by simp) ?_;simp [h];refine aa.pure (aG c ⟨4,c.doc,0,0,0,[],[]⟩ (by omega)) (by simp [Call.row,k4]) ?_;rw [fin _ hu];simp
  by_cases k5:c.kind=5
  ·have h:aJ 5:=by unfold aJ;omega
   have hu:aC c=⟨5,c.doc,0,0,c.n,[],[]⟩:=by simp [aC,k5,h]
   simp [k5];refine aa.pure (aP 5) (by simp) ?_;simp [h];refine aa.pure (aG c ⟨5,c.doc,0,0,c.n,[],[]⟩ (by omega)) (by simp [Call.row,k5]) ?_;rw [fin _ hu];simp
  by_cases k6:c.kind=6
  ·have h:¬ aJ 6:=by unfold aJ;omega
   have hu:aC c=⟨6,⟨#[]⟩,c.client,0,c.n,[],[]⟩:=by simp [aC,k6,h]
   simp [k6];refine aa.pure (aP 6) (by simp) ?_;simp [ab h];refine drw eok mix [0,1,2,3,4,6] [5,7] (.c 6 5 50 13 (.c 6 7 13 0 (.l 6 0) .s) .s) ?_;simp
   try intros
   refine aa.pure (aG c ⟨6,⟨#[]⟩,c.client,0,c.n,[],[]⟩ (by omega)) (by simp [Call.row,k6]) ?_;rw [fin _ hu];simp
  by_cases k7:c.kind=7
  ·have h:¬ aJ 7:=by unfold aJ;omega
   have hu:aC c=⟨7,⟨#[]⟩,c.client,0,0,[],[]⟩:=by simp [aC,k7,h]
   simp [k7];refine aa.pure (aP 7) (by simp) ?_;simp [ab h];refine aa.pure (aG c ⟨7,⟨#[]⟩,c.client,0,0,[],[]⟩ (by omega)) (by simp [Call.row,k7]) ?_;rw [fin _ hu];simp
  have k8:c.kind=8:=by omega
  have h:¬ aJ 8:=by unfold aJ;omega
  have hu:aC c=⟨8,⟨#[]⟩,0,0,0,[],[]⟩:=by simp [aC,k8,h]
  simp [k8];refine aa.pure (aP 8) (by simp) ?_;simp [ab h];refine aa.pure (aG c ⟨8,⟨#[]⟩,0,0,0,[],[]⟩ (by omega)) (by simp [Call.row,k8]) ?_;rw [fin _ hu];simp
 ·simp
  rw [Trc];refine ⟨?_,?_⟩
  ·simp
   refine inl ae Tryz.func216 20000 (λw1 F=>?_);simp;intro g1 g2 g3;by_cases k1:c.kind=1
   ·have h:aJ 1:=by unfold aJ;omega
    have hu:aC c=⟨1,c.doc,0,0,0,[],c.text⟩:=by simp [aC,k1,h]
    simp [k1];refine aa.pure (aP 1) (by simp) ?_;simp [h];refine aa.pure (aG c ⟨1,c.doc,0,0,0,[],c.text⟩ (by omega)) (by simp [Call.row,k1]) ?_;rw [fin _ hu];simp
   by_cases k2:c.kind=2
   ·have h:aJ 2:=by unfold aJ;omega
    have hu:aC c=⟨2,c.doc,c.client,c.seq,c.n,c.o,[]⟩:=by simp [aC,k2,h]
    simp [k2];refine aa.pure (aP 2) (by simp) ?_;simp [h];refine drw eok mix [0,1,2,3,4,5,6,7,8,10,12,14] [9,11,13,15] (.c 12 9 3080 1015 (.c 12 11 772 243 (.c 12 13 194 49 (.c 12 15 49 0 (.l 12 0) .s) .s) .s) .s) ?_;simp
    try intros
    refine aa.pure (aG c ⟨2,c.doc,c.client,c.seq,c.n,c.o,[]⟩ (by omega)) (by simp [Call.row,k2]) ?_;rw [fin _ hu];simp
   by_cases k3:c.kind=3
   ·have h:aJ 3:=by unfold aJ;omega
    have hu:aC c=⟨3,c.doc,0,0,c.n,[],[]⟩:=by simp [aC,k3,h]
    simp [k3];refine aa.pure (aP 3) (by simp) ?_;simp [h];refine aa.pure (aG c ⟨3,c.doc,0,0,c.n,[],[]⟩ (by omega)) (by simp [Call.row,k3]) ?_;rw [fin _ hu];simp
   by_cases k4:c.kind=4
   ·have h:aJ 4:=by unfold aJ;omega
    have hu:aC c=⟨4,c.doc,0,0,0,[],[]⟩:=by simp [aC,k4,h]
    simp [k4];refine aa.pure (aP 4) (by simp) ?_;simp [h];refine aa.pure (aG c ⟨4,c.doc,0,0,0,[],[]⟩ (by omega)) (by simp [Call.row,k4]) ?_;rw [fin _ hu];simp
   by_cases k5:c.kind=5
   ·have h:aJ 5:=by unfold aJ;omega
    have hu:aC c=⟨5,c.doc,0,0,c.n,[],[]⟩:=by simp [aC,k5,h]
    simp [k5];refine aa.pure (aP 5) (by simp) ?_;simp [h];refine aa.pure (aG c ⟨5,c.doc,0,0,c.n,[],[]⟩ (by omega)) (by simp [Call.row,k5]) ?_;rw [fin _ hu];simp
   by_cases k6:c.kind=6
   ·have h:¬ aJ 6:=by unfold aJ;omega
    have hu:aC c=⟨6,⟨#[]⟩,c.client,0,c.n,[],[]⟩:=by simp [aC,k6,h]
    simp [k6];refine aa.pure (aP 6) (by simp) ?_;simp [ab h];refine drw eok mix [0,1,2,3,4,6] [5,7] (.c 6 5 50 13 (.c 6 7 13 0 (.l 6 0) .s) .s) ?_;simp
    try intros
    refine aa.pure (aG c ⟨6,⟨#[]⟩,c.client,0,c.n,[],[]⟩ (by omega)) (by simp [Call.row,k6]) ?_;rw [fin _ hu];simp
   by_cases k7:c.kind=7
   ·have h:¬ aJ 7:=by unfold aJ;omega
    have hu:aC c=⟨7,⟨#[]⟩,c.client,0,0,[],[]⟩:=by simp [aC,k7,h]
    simp [k7];refine aa.pure (aP 7) (by simp) ?_;simp [ab h];refine aa.pure (aG c ⟨7,⟨#[]⟩,c.client,0,0,[],[]⟩ (by omega)) (by simp [Call.row,k7]) ?_;rw [fin _ hu];simp
   have k8:c.kind=8:=by omega
   have h:¬ aJ 8:=by unfold aJ;omega
   have hu:aC c=⟨8,⟨#[]⟩,0,0,0,[],[]⟩:=by simp [aC,k8,h]
   simp [k8];refine aa.pure (aP 8) (by simp) ?_;simp [ab h];refine aa.pure (aG c ⟨8,⟨#[]⟩,0,0,0,[],[]⟩ (by omega)) (by simp [Call.row,k8]) ?_;rw [fin _ hu];simp
  ·simp
   refine inl ae Tryz.func216 20000 (λw1 F=>?_);simp;intro g1 g2 g3;by_cases k1:c.kind=1
   ·have h:aJ 1:=by unfold aJ;omega
    have hu:aC c=⟨1,c.doc,0,0,0,[],c.text⟩:=by simp [aC,k1,h]
    simp [k1];refine aa.pure (aP 1) (by simp) ?_;simp [h];refine aa.pure (aG c ⟨1,c.doc,0,0,0,[],c.text⟩ (by omega)) (by simp [Call.row,k1]) ?_;rw [fin _ hu];simp
   by_cases k2:c.kind=2
   ·have h:aJ 2:=by unfold aJ;omega
    have hu:aC c=⟨2,c.doc,c.client,c.seq,c.n,c.o,[]⟩:=by simp [aC,k2,h]
    simp [k2];refine aa.pure (aP 2) (by simp) ?_;simp [h];refine drw eok mix [0,1,2,3,4,5,6,7,8,10,12,14] [9,11,13,15] (.c 12 9 3080 1015 (.c 12 11 772 243 (.c 12 13 194 49 (.c 12 15 49 0 (.l 12 0) .s) .s) .s) .s) ?_;simp
    try intros
    refine aa.pure (aG c ⟨2,c.doc,c.client,c.seq,c.n,c.o,[]⟩ (by omega)) (by simp [Call.row,k2]) ?_;rw [fin _ hu];simp
   by_cases k3:c.kind=3
   ·have h:aJ 3:=by unfold aJ;omega
    have hu:aC c=⟨3,c.doc,0,0,c.n,[],[]⟩:=by simp [aC,k3,h]
    simp [k3];refine aa.pure (aP 3) (by simp) ?_;simp [h];refine aa.pure (aG c ⟨3,c.doc,0,0,c.n,[],[]⟩ (by omega)) (by simp [Call.row,k3]) ?_;rw [fin _ hu];simp
   by_cases k4:c.kind=4
   ·have h:aJ 4:=by unfold aJ;omega
    have hu:aC c=⟨4,c.doc,0,0,0,[],[]⟩:=by simp [aC,k4,h]
    simp [k4];refine aa.pure (aP 4) (by simp) ?_;simp [h];refine aa.pure (aG c ⟨4,c.doc,0,0,0,[],[]⟩ (by omega)) (by simp [Call.row,k4]) ?_;rw [fin _ hu];simp
   by_cases k5:c.kind=5
   ·have h:aJ 5:=by unfold aJ;omega
    have hu:aC c=⟨5,c.doc,0,0,c.n,[],[]⟩:=by simp [aC,k5,h]
    simp [k5];refine aa.pure (aP 5) (by simp) ?_;simp [h];refine aa.pure (aG c ⟨5,c.doc,0,0,c.n,[],[]⟩ (by omega)) (by simp [Call.row,k5]) ?_;rw [fin _ hu];simp
   by_cases k6:c.kind=6
   ·have h:¬ aJ 6:=by unfold aJ;omega
    have hu:aC c=⟨6,⟨#[]⟩,c.client,0,c.n,[],[]⟩:=by simp [aC,k6,h]
    simp [k6];refine aa.pure (aP 6) (by simp) ?_;simp [ab h];refine drw eok mix [0,1,2,3,4,6] [5,7] (.c 6 5 50 13 (.c 6 7 13 0 (.l 6 0) .s) .s) ?_;simp
    try intros
    refine aa.pure (aG c ⟨6,⟨#[]⟩,c.client,0,c.n,[],[]⟩ (by omega)) (by simp [Call.row,k6]) ?_;rw [fin _ hu];simp
   by_cases k7:c.kind=7
   ·have h:¬ aJ 7:=by unfold aJ;omega
    have hu:aC c=⟨7,⟨#[]⟩,c.client,0,0,[],[]⟩:=by simp [aC,k7,h]
    simp [k7];refine aa.pure (aP 7) (by simp) ?_;simp [ab h];refine aa.pure (aG c ⟨7,⟨#[]⟩,c.client,0,0,[],[]⟩ (by omega)) (by simp [Call.row,k7]) ?_;rw [fin _ hu];simp
   have k8:c.kind=8:=by omega
   have h:¬ aJ 8:=by unfold aJ;omega
   have hu:aC c=⟨8,⟨#[]⟩,0,0,0,[],[]⟩:=by simp [aC,k8,h]
   simp [k8];refine aa.pure (aP 8) (by simp) ?_;simp [ab h];refine aa.pure (aG c ⟨8,⟨#[]⟩,0,0,0,[],[]⟩ (by omega)) (by simp [Call.row,k8]) ?_;rw [fin _ hu];simp
theorem jB (c:Call) (hl:dv c<=2 ^ 36):ai Tryz.prog 110 [.agg c.row] (.one (.c (vb (bp c)) 1)):=by
 refine pci ae Tryz.func110 (λw0 base=>?_);have hx:∀ p:Prop,(bp c->p)->¬ p->dc (bp c)=false:=λp h1 h2=>ab (λh=>h2 (h1 h))
 unfold dv at hl;simp [Call.row];intro b1;refine aa.pure (By c.kind) (by simp) ?_;by_cases s1:1<=c.kind/\c.kind<=8
 rotate_left
 ·simp [ab s1,hx _ (λh=>h.1) s1]
 simp [s1];by_cases s2:c.doc.size<=8
 rotate_left
 ·have s2':8<(c.doc.size:Int):=by omega
  simp [s2',hx _ (λh=>h.2.1) s2]
 have s2':¬ 8<(c.doc.size:Int):=by omega
 simp [s2'];refine aa.pure (kP c.o (by omega)) (by simp) ?_;by_cases s3:dj c.o
 rotate_left
 ·simp [ab s3,hx _ (λh=>h.2.2.1) s3]
 simp [s3];refine aa.pure (jz c.text (by omega)) (by simp) ?_;by_cases s4:cO c.text
 rotate_left
 ·simp [ab s4,hx _ (λh=>h.2.2.2.1) s4]
 simp [s4];refine aa.pure (mL c.kind) (by simp) ?_
 clear hx
 obtain ⟨kind,doc,client,seq,n,o,text⟩:=c;simp only at s1 s2 s3 s4 s2' ⊢
 have ho:(0<o.length) = ¬ o=[]:=by
  apply propext
  cases o<;>simp
 have ht:(0<text.length) = ¬ text=[]:=by
  apply propext
  cases text<;>simp
 have hk:kind=1\/kind=2\/kind=3\/kind=4\/kind=5\/kind=6\/kind=7\/kind=8:=by omega
 unfold vb;rcases hk with rfl|rfl|rfl|rfl|rfl|rfl|rfl|rfl
 ·have hd:aJ 1:=by unfold aJ;omega
  have e:dc (bp ⟨1,doc,client,seq,n,o,text⟩)=dc (o=[]/\seq=0/\client=0/\n=0):=by
   congr 1;apply propext;unfold bp
   constructor
   ·rintro ⟨-,-,-,-,g1,g2,g3,g4,g5⟩;simp_all
   ·intro g;refine ⟨s1,s2,s3,s4,?_,?_,?_,?_,?_⟩<;>simp_all
  rw [e];simp [hd,ho];by_cases e0:o=[]<;>by_cases e1:seq=0<;>by_cases e2:client=0<;>by_cases e3:n=0<;>simp [e0,e1,e2,e3,ho]
 ·have hd:aJ 2:=by unfold aJ;omega
  have e:dc (bp ⟨2,doc,client,seq,n,o,text⟩)=dc (text=[]):=by
   congr 1;apply propext;unfold bp
   constructor
   ·rintro ⟨-,-,-,-,g1,g2,g3,g4,g5⟩;simp_all
   ·intro g;refine ⟨s1,s2,s3,s4,?_,?_,?_,?_,?_⟩<;>simp_all
  rw [e];simp [hd,ht];by_cases e0:text=[]<;>simp [e0,ht]
 ·have hd:aJ 3:=by unfold aJ;omega
  have e:dc (bp ⟨3,doc,client,seq,n,o,text⟩)=dc (text=[]/\o=[]/\seq=0/\client=0):=by
   congr 1;apply propext;unfold bp
   constructor
   ·rintro ⟨-,-,-,-,g1,g2,g3,g4,g5⟩;simp_all
   ·intro g;refine ⟨s1,s2,s3,s4,?_,?_,?_,?_,?_⟩<;>simp_all
  rw [e];simp [hd,ht];by_cases e0:text=[]<;>by_cases e1:o=[]<;>by_cases e2:seq=0<;>by_cases e3:client=0<;>simp [e0,e1,e2,e3,ho,ht]
 ·have hd:aJ 4:=by unfold aJ;omega
  have e:dc (bp ⟨4,doc,client,seq,n,o,text⟩)=dc (text=[]/\o=[]/\seq=0/\client=0/\n=0):=by
   congr 1;apply propext;unfold bp
   constructor
   ·rintro ⟨-,-,-,-,g1,g2,g3,g4,g5⟩;simp_all
   ·intro g;refine ⟨s1,s2,s3,s4,?_,?_,?_,?_,?_⟩<;>simp_all
  rw [e];simp [hd,ht];by_cases e0:text=[]<;>by_cases e1:o=[]<;>by_cases e2:seq=0<;>by_cases e3:client=0<;>by_cases e4:n=0<;>simp [e0,e1,e2,e3,e4,ho,ht]
 ·have hd:aJ 5:=by unfold aJ;omega
  have e:dc (bp ⟨5,doc,client,seq,n,o,text⟩)=dc (text=[]/\o=[]/\seq=0/\client=0):=by
   congr 1;apply propext;unfold bp
   constructor
   ·rintro ⟨-,-,-,-,g1,g2,g3,g4,g5⟩;simp_all
   ·intro g;refine ⟨s1,s2,s3,s4,?_,?_,?_,?_,?_⟩<;>simp_all
  rw [e];simp [hd,ht];by_cases e0:text=[]<;>by_cases e1:o=[]<;>by_cases e2:seq=0<;>by_cases e3:client=0<;>simp [e0,e1,e2,e3,ho,ht]
 ·have hd:¬ aJ 6:=by unfold aJ;omega
  have e:dc (bp ⟨6,doc,client,seq,n,o,text⟩)=dc (doc=⟨#[]⟩/\text=[]/\o=[]/\seq=0):=by
   congr 1;apply propext;unfold bp
   constructor
   ·rintro ⟨-,-,-,-,g1,g2,g3,g4,g5⟩;simp_all
   ·intro g;refine ⟨s1,s2,s3,s4,?_,?_,?_,?_,?_⟩<;>simp_all
  rw [e];simp [ab hd];by_cases e0:doc=⟨#[]⟩<;>by_cases e1:text=[]<;>by_cases e2:o=[]<;>by_cases e3:seq=0<;>simp [e0,e1,e2,e3,ho,ht]
 ·have hd:¬ aJ 7:=by unfold aJ;omega
  have e:dc (bp ⟨7,doc,client,seq,n,o,text⟩)=dc (doc=⟨#[]⟩/\text=[]/\o=[]/\seq=0/\n=0):=by
   congr 1;apply propext;unfold bp
   constructor
   ·rintro ⟨-,-,-,-,g1,g2,g3,g4,g5⟩;simp_all
   ·intro g;refine ⟨s1,s2,s3,s4,?_,?_,?_,?_,?_⟩<;>simp_all
  rw [e];simp [ab hd];by_cases e0:doc=⟨#[]⟩<;>by_cases e1:text=[]<;>by_cases e2:o=[]<;>by_cases e3:seq=0<;>by_cases e4:n=0<;>simp [e0,e1,e2,e3,e4,ho,ht]
 ·have hd:¬ aJ 8:=by unfold aJ;omega
  have e:dc (bp ⟨8,doc,client,seq,n,o,text⟩)=dc (doc=⟨#[]⟩/\text=[]/\o=[]/\seq=0/\client=0/\n=0):=by
   congr 1;apply propext;unfold bp
   constructor
   ·rintro ⟨-,-,-,-,g1,g2,g3,g4,g5⟩;simp_all
   ·intro g;refine ⟨s1,s2,s3,s4,?_,?_,?_,?_,?_⟩<;>simp_all
  rw [e];simp [ab hd];by_cases e0:doc=⟨#[]⟩<;>by_cases e1:text=[]<;>by_cases e2:o=[]<;>by_cases e3:seq=0<;>by_cases e4:client=0<;>by_cases e5:n=0<;>simp [e0,e1,e2,e3,e4,e5,ho,ht]
theorem lm {h:Hub} {c:Call} (n:¬ (ao h/\bp c)):fDo h c=(h,bK 1):=by unfold fDo;rw [if_neg n]
theorem LZ {h:Hub} {c:Call} (y:ao h/\bp c) (k:c.kind=1):fDo h c=if (aY h c.doc c.text).2=0 then ((aY h c.doc c.text).1,bK 0) else (h,bK (aY h c.doc c.text).2):=by unfold fDo;rw [if_pos y,if_pos k]
theorem DU {h:Hub} {c:Call} (y:ao h/\bp c) (k:c.kind=2):fDo h c=if (aF h c.doc c.client c.seq c.n c.o).2.2=0 then ((aF h c.doc c.client c.seq c.n c.o).1,⟨0,(aF h c.doc c.client c.seq c.n c.o).2.1,[],[]⟩) else (h,bK (aF h c.doc c.client c.seq c.n c.o).2.2):=by
 unfold fDo;rw [if_pos y,if_neg (by omega),if_pos k]
theorem IU {h:Hub} {c:Call} (y:ao h/\bp c) (k:c.kind=3\/c.kind=4):fDo h c=(h,jx h c):=by unfold fDo;rw [if_pos y,if_neg (by omega),if_neg (by omega),if_pos k]
theorem LY {h:Hub} {c:Call} (y:ao h/\bp c) (k:c.kind=5):fDo h c=if (au h c.doc c.n).2.2=0 then ((au h c.doc c.n).1,⟨0,(au h c.doc c.n).2.1,[],[]⟩) else (h,bK (au h c.doc c.n).2.2):=by
 unfold fDo;rw [if_pos y,if_neg (by omega),if_neg (by omega),if_neg (by omega),if_pos k]
theorem LX {h:Hub} {c:Call} (y:ao h/\bp c) (k:c.kind=6):fDo h c=if (bo h c.client c.n).2.2=0 then ((bo h c.client c.n).1,⟨0,0,[],(bo h c.client c.n).2.1⟩) else (h,bK (bo h c.client c.n).2.2):=by
 unfold fDo;rw [if_pos y,if_neg (by omega),if_neg (by omega),if_neg (by omega),if_neg (by omega),if_pos k]
theorem LW {h:Hub} {c:Call} (y:ao h/\bp c) (k:c.kind=7):fDo h c=if (aI h c.client).2.2.2=0 then ((aI h c.client).1,⟨0,(aI h c.client).2.2.1,(aI h c.client).2.1,[]⟩) else (h,bK (aI h c.client).2.2.2):=by
 unfold fDo;rw [if_pos y,if_neg (by omega),if_neg (by omega),if_neg (by omega),if_neg (by omega),if_neg (by omega),if_pos k]
theorem LV {h:Hub} {c:Call} (y:ao h/\bp c) (k:c.kind=8):fDo h c=if (bS h).2=0 then ((bS h).1,bK 0) else (h,bK (bS h).2):=by
 unfold fDo;rw [if_pos y,if_neg (by omega),if_neg (by omega),if_neg (by omega),if_neg (by omega),if_neg (by omega),if_neg (by omega)]
theorem Hb (h:Hub) (hl:bX h<=2 ^ 28) (c:Call) (hc:dv c<=2 ^ 28):ai Tryz.prog 165 [.agg h.row,.agg c.row] (.tup [.agg (fDo h c).1.res,.agg (fDo h c).2.res]):=by
 refine pci ae Tryz.func165 (λw0 base=>?_);have hcn:c.doc.size<=2 ^ 28/\nL aH c.o<=2 ^ 28/\c.text.length<=2 ^ 28:=by unfold dv at hc;omega
 simp [Hub.row,Call.row];intro b2 b3 b4 b5;refine aa.pure (dt h (by omega)) (by simp [Hub.row]) ?_;by_cases c1:ao h
 rotate_left
 ·simp [ab c1]
  refine aa.pure (bY h (by omega)) (by simp [Hub.row]) ?_;simp [Hub.res,lm (λh=>c1 h.1),Answer.res,bK]
 simp [c1];refine aa.pure (jB c (by omega)) (by simp [Call.row]) ?_;by_cases c2:bp c
 rotate_left
 ·simp [ab c2]
  refine aa.pure (bY h (by omega)) (by simp [Hub.row]) ?_;simp [Hub.res,lm (λh=>c2 h.2),Answer.res,bK]
 simp [c2];intro b6 b23 b24;have hk:c.kind=1\/c.kind=2\/(c.kind=3\/c.kind=4)\/c.kind=5\/c.kind=6\/c.kind=7\/c.kind=8:=by have:=c2.1;omega
 rcases hk with k|k|k|k|k|k|k
 ·-- kind 1
  have hat:=LZ ⟨c1,c2⟩ k;have hd:=iR h (by omega) c.doc hcn.1 c.text hcn.2.2;generalize aY h c.doc c.text=R at hd hat;obtain ⟨X,code⟩:=R;simp only at hd hat;simp [k];refine aa.pure hd (by simp [Hub.row]) ?_;simp [Hub.res];intros;by_cases z:code=0
  ·rw [if_pos z] at hat
   simp [z,hat,Answer.res,bK]
  ·rw [if_neg z] at hat
   simp [z];refine aa.pure (bY h (by omega)) (by simp [Hub.row]) ?_;simp [Hub.res,hat,Answer.res,bK]
 ·-- kind 2
  have hat:=DU ⟨c1,c2⟩ k;have hd:=d7 h (by omega) c.doc c.client c.seq c.n c.o (by omega);generalize aF h c.doc c.client c.seq c.n c.o=R at hd hat;obtain ⟨X,rev,code⟩:=R;simp only at hd hat;simp [k];refine aa.pure hd (by simp [Hub.row]) ?_;simp [Hub.res];intros;by_cases z:code=0
  ·rw [if_pos z] at hat
   simp [z,hat,Answer.res]
  ·rw [if_neg z] at hat
   simp [z];refine aa.pure (bY h (by omega)) (by simp [Hub.row]) ?_;simp [Hub.res,hat,Answer.res,bK]
 ·-- kinds 3, 4
  have hat:=IU ⟨c1,c2⟩ k;have hd:=Bv h (by omega) c1 c;generalize jx h c=A at hd hat;have k1:¬ c.kind=1:=by omega
  have k2:¬ c.kind=2:=by omega
  have fin:∀ _:c.kind=3\/(¬ c.kind=3/\c.kind=4),True:=λ_=>trivial
  rcases k with k|k
  ·simp [k]
   refine drw eok mix [0,2,3] [1,4,5,6] (.c 3 1 4 3 (.c 3 4 3 0 (.c 3 5 0 0 (.c 3 6 0 0 (.l 3 0) .s) .s) .s) .s) ?_;simp
   try intros
   refine aa.pure (bY h (by omega)) (by simp [Hub.row]) ?_;simp [Hub.res]
   try intros
   refine aa.pure (hd) (by simp [Hub.row,Call.row,k]) ?_;simp [Answer.res]
   try intros
   rw [hat];simp
  ·simp [k]
   refine drw eok mix [0,2,3] [1,4,5,6] (.c 3 1 4 3 (.c 3 4 3 0 (.c 3 5 0 0 (.c 3 6 0 0 (.l 3 0) .s) .s) .s) .s) ?_;simp
   try intros
   refine aa.pure (bY h (by omega)) (by simp [Hub.row]) ?_;simp [Hub.res]
   try intros
   refine aa.pure (hd) (by simp [Hub.row,Call.row,k]) ?_;simp [Answer.res]
   try intros
   rw [hat];simp
 ·-- kind 5
  have hat:=LY ⟨c1,c2⟩ k;have hd:=jV h (by omega) c.doc c.n;generalize au h c.doc c.n=R at hd hat;obtain ⟨X,rev,code⟩:=R;simp only at hd hat;simp [k];refine aa.pure hd (by simp [Hub.row]) ?_;simp [Hub.res];intros;by_cases z:code=0
  ·rw [if_pos z] at hat
   simp [z,hat,Answer.res]
  ·rw [if_neg z] at hat
   simp [z];refine aa.pure (bY h (by omega)) (by simp [Hub.row]) ?_;simp [Hub.res,hat,Answer.res,bK]
 ·-- kind 6
  have hat:=LX ⟨c1,c2⟩ k;have hd:=oF h (by omega) c.client c.n;generalize bo h c.client c.n=R at hd hat;obtain ⟨X,list,code⟩:=R;simp only at hd hat;simp [k];refine aa.pure hd (by simp [Hub.row]) ?_;simp [Hub.res];intros;by_cases z:code=0
  ·rw [if_pos z] at hat
   simp [z,hat,Answer.res]
  ·rw [if_neg z] at hat
   simp [z];refine aa.pure (bY h (by omega)) (by simp [Hub.row]) ?_;simp [Hub.res,hat,Answer.res,bK]
 ·-- kind 7
  have hat:=LW ⟨c1,c2⟩ k;have hd:=mq h (by omega) c.client;generalize aI h c.client=R at hd hat;obtain ⟨X,text,rev,code⟩:=R;simp only at hd hat;simp [k];refine aa.pure hd (by simp [Hub.row]) ?_;simp [Hub.res];intros;by_cases z:code=0
  ·rw [if_pos z] at hat
   simp [z,hat,Answer.res]
  ·rw [if_neg z] at hat
   simp [z];refine aa.pure (bY h (by omega)) (by simp [Hub.row]) ?_;simp [Hub.res,hat,Answer.res,bK]
 ·-- kind 8
  have hat:=LV ⟨c1,c2⟩ k;have hd:=vw h (by omega);generalize bS h=R at hd hat;obtain ⟨X,code⟩:=R;simp only at hd hat;simp [k];refine aa.pure hd (by simp [Hub.row]) ?_;simp [Hub.res];intros;by_cases z:code=0
  ·rw [if_pos z] at hat
   simp [z,hat,Answer.res,bK]
  ·rw [if_neg z] at hat
   simp [z];refine aa.pure (bY h (by omega)) (by simp [Hub.row]) ?_;simp [Hub.res,hat,Answer.res,bK]
set_option maxHeartbeats 1600000
theorem sD (p q:Entry) (hl:aS p<=2 ^ 40):ai Tryz.prog 195 [.agg p.row,.agg q.row] (.one (.c (vb (p=q)) 1)):=by
 refine pci ae Tryz.func195 (λw0 base=>?_);obtain ⟨k1,n1,s1⟩:=p;obtain ⟨k2,n2,s2⟩:=q;simp [Entry.row];intro b1 b2;by_cases h1:k1=k2
 ·by_cases h2:n1=n2
  ·simp [h1,h2]
   refine aa.pure (oE s1 s2 hl) (by simp) ?_;simp
  ·simp [h1,h2]
 ·simp [h1]
theorem sH (p q:Entry) (hl:aS p<=2 ^ 40):ai Tryz.prog 119 [.agg p.row,.agg q.row] (.one (.c (vb (p=q)) 1)):=by
 refine pci ae Tryz.func119 (λw0 base=>?_);obtain ⟨k1,n1,s1⟩:=p;obtain ⟨k2,n2,s2⟩:=q;simp [Entry.row];intro b1 b2;by_cases h1:k1=k2
 ·by_cases h2:n1=n2
  ·simp [h1,h2]
   refine aa.pure (l9 s1 s2 hl) (by simp) ?_;simp
  ·simp [h1,h2]
 ·simp [h1]
theorem iO (a b:List Entry) (hs:nL aS a<=2 ^ 40):ai Tryz.prog 118 [.c (.s (a.map Entry.row)),.c (.s (b.map Entry.row)),.c (.v (.func (.func 119) #[] #[]))] (.one (.c (vb (a=b)) 1)):=by
 have hl:=aB hs;refine pci ae Tryz.func118 (λw0 base=>?_);by_cases h:a.length=b.length
 ·simp [h]
  refine aq.intro eok (λi:Nat=>i<=a.length/\a.take i=b.take i) (λi=>⟨32,0,[(17,.v (.int .i64 i)),(16,.v (.int .i64 b.length)),(15,.ro (a.map Entry.row)),(2,.v (.func (.func 119) #[] #[])),(1,.ro (b.map Entry.row))],[]⟩) (λi=>a.length - i) 0 (by simp) (by simp) (λi hi=>?_);by_cases hlt:i<a.length
  ·have hlt':i<b.length:=by omega
   simp [hlt,hlt',Entry.row];intro b1 b2;refine aa.pure (sH a[i] b[i] (cU hs (List.getElem_mem hlt))) (by simp [Entry.row]) ?_;simp;refine Br.mk (λh1=>?_) (λh1=>?_)
   ·simp
    exact ⟨i+1,⟨by omega,fV hlt hlt' hi.2 (kU h1)⟩,by omega,ah (by omega)⟩
   ·simp [cj]
    exact mX hlt hlt' (oH h1)
  ·have hlt':¬ i<b.length:=by omega
   simp [hlt',iq];exact gZ (by omega) (by omega) hi.2
 ·have hz:¬ (a.length:Int)=b.length:=by omega
  simp [hz,cj];exact λh2=>absurd (by rw [h2]) h
theorem df (p q:Answer) (hl:cM p<=2 ^ 40):ai Tryz.prog 35 [.agg p.row,.agg q.row] (.one (.c (vb (p=q)) 1)):=by
 refine pci ae Tryz.func35 (λw0 base=>?_);obtain ⟨n1,f1,t1,l1⟩:=p;obtain ⟨n2,f2,t2,l2⟩:=q;unfold cM at hl;simp only at hl;simp [Answer.row];intro b1 b2;by_cases h1:n1=n2
 rotate_left
 ·simp [h1]
 by_cases h2:f1=f2
 rotate_left
 ·simp [h1,h2]
 simp [h1,h2];refine aa.pure (lu t1 t2 (by omega)) (by simp) ?_;by_cases h3:t1=t2
 rotate_left
 ·simp [h3]
 simp [h3];refine aa.pure (iO l1 l2 (by omega)) (by simp) ?_;simp
theorem eM (p q:Answer) (hl:cM p<=2 ^ 40):ai Tryz.prog 99 [.agg p.row,.agg q.row] (.one (.c (vb (p=q)) 1)):=by
 refine pci ae Tryz.func99 (λw0 base=>?_);obtain ⟨n1,f1,t1,l1⟩:=p;obtain ⟨n2,f2,t2,l2⟩:=q;unfold cM at hl;simp only at hl;simp [Answer.row];intro b1 b2;by_cases h1:n1=n2
 rotate_left
 ·simp [h1]
 by_cases h2:f1=f2
 rotate_left
 ·simp [h1,h2]
 simp [h1,h2];refine aa.pure (rN t1 t2 (by omega)) (by simp) ?_;by_cases h3:t1=t2
 rotate_left
 ·simp [h3]
 subst h3;by_cases h4:l1.length=l2.length
 rotate_left
 ·have h42:¬ (l1.length:Int)=l2.length:=by omega
  have h43:¬ l1=l2:=λh=>h4 (by rw [h])
  simp [h42,h43]
 simp [h4]
 refine aq.intro eok (λi:Nat=>i<=l1.length/\l1.take i=l2.take i) (λi=>⟨53,0,[(2,.p 32 b1 0),(3,.p 48 b2 0),(39,.v (.int .i64 i)),(38,.v (.int .i64 l2.length)),(37,.ro (l1.map Entry.row))],
  [(32,.vars b1 72 [.v (.int .i64 n2),.v (.int .i64 f2),.ro (t1.map ak),.ro (l1.map Entry.row)]),(48,.vars b2 72 [.v (.int .i64 n2),.v (.int .i64 f2),.ro (t1.map ak),.ro (l2.map Entry.row)])]⟩) (λi=>l1.length - i) 0 (by simp) (by simp) (λi hi=>?_)
 by_cases hlt:i<l1.length
 ·have hlt':i<l2.length:=by omega
  have hll:=aB (f:=aS) (B:=2 ^ 40) (l:=l1) (by omega);have hm:=cU (f:=aS) (B:=2 ^ 40) (l:=l1) (by omega) (List.getElem_mem hlt);simp [hlt,hlt',Entry.row];intro b6;refine am.quiet eok mix (by kernel_rfl) ?_;simp [hlt',Entry.row];refine ⟨_,_,sD l1[i] l2[i] hm,by simp [Entry.row],?_⟩;simp;by_cases h6:l1[i]=l2[i]
  ·simp [h6]
   exact ⟨i+1,⟨by omega,fV hlt hlt' hi.2 h6⟩,by omega,ah (by omega)⟩
  ·have h7:=mX hlt hlt' h6
   simp [h6,h7]
 have hlt':¬ i<l2.length:=by omega
 have hll:=gZ (by omega) h4 hi.2;subst hll;simp [hlt']
theorem E8 (s:ByteArray) (hl:s.size<=2 ^ 40):ai Tryz.prog 174 [.c (.v (.string s))] (.one (.c (vi (fnv s)) 1)):=by
 refine pci ae Tryz.func174 (λw0 base=>?_);simp;refine aq.intro eok (λi:Nat=>i<=s.size) (λi=>⟨20,0,[(4,.v (.int .i64 i)),(3,.v (.int .i64 (iw s i))),(0,.v (.string s))],[]⟩) (λi=>s.size - i) 0 (by simp) (by simp [iw]) (λi hi=>?_);by_cases hlt:i<s.size
 ·have e:=wZ hlt
  unfold qe at e;have ec:Go.IntKind.i64.wrap (s[i].toNat:Int)=s[i].toNat:=eJ (by have:=s[i].toNat_lt;omega);simp [hlt,ec];exact ⟨i+1,by omega,by omega,ah (by omega),e.symm⟩
 ·have e:iw s i=fnv s:=by unfold fnv;congr 1;omega
  simp [hlt,e]
theorem D9 (s:ByteArray) (hl:s.size<=2 ^ 40):ai Tryz.prog 166 [.c (.v (.string s))] (.one (.c (vi (fnv s)) 1)):=by
 refine pci ae Tryz.func166 (λw0 base=>?_);simp;refine aq.intro eok (λi:Nat=>i<=s.size) (λi=>⟨20,0,[(4,.v (.int .i64 i)),(3,.v (.int .i64 (iw s i))),(0,.v (.string s))],[]⟩) (λi=>s.size - i) 0 (by simp) (by simp [iw]) (λi hi=>?_);by_cases hlt:i<s.size
 ·have e:=wZ hlt
  unfold qe at e;have ec:Go.IntKind.i64.wrap (s[i].toNat:Int)=s[i].toNat:=eJ (by have:=s[i].toNat_lt;omega);simp [hlt,ec];exact ⟨i+1,by omega,by omega,ah (by omega),e.symm⟩
 ·have e:iw s i=fnv s:=by unfold fnv;congr 1;omega
  simp [hlt,e]
theorem l7 (s:ByteArray) (hl:s.size<=2 ^ 40) (n:Nat) (h1:1<=n) (hn:n<=2 ^ 40):ai Tryz.prog 77 [.c (.v (.string s)),.c (vi n)] (.one (.c (vi (aQ s n)) 1)):=by
 refine pci ae Tryz.func77 (λw0 base=>?_);have e:=(iB s h1).1;have c1:¬ (n:Int)<1:=by omega
 have c2:¬ (n:Int)=0:=by omega
 have c3:¬ n=0:=by omega
 simp [c1];refine aa.pure (E8 s hl) (by simp) ?_;simp [c3,e]
theorem jA (s:ByteArray) (hl:s.size<=2 ^ 40) (n:Nat) (h1:1<=n) (hn:n<=2 ^ 40):ai Tryz.prog 71 [.c (.v (.string s)),.c (vi n)] (.one (.c (vi (aQ s n)) 1)):=by
 refine pci ae Tryz.func71 (λw0 base=>?_);have e:=(iB s h1).1;have c1:¬ (n:Int)<1:=by omega
 have c2:¬ (n:Int)=0:=by omega
 have c3:¬ n=0:=by omega
 simp [c1];refine aa.pure (D9 s hl) (by simp) ?_;simp [c3,e]
end Go.Proofs.YtoldjebobgocpaaGreat
