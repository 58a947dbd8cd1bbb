import Derived.Test.YtoldjebobgocpaaGreatPH
import Derived.Test.YtoldjebobgocpaaGreatPG
import Derived.Test.YtoldjebobgocpaaGreatPJ
import Derived.Test.YtoldjebobgocpaaGreatPF
import Derived.Test.YtoldjebobgocpaaGreatPA
import Derived.Test.YtoldjebobgocpaaGreatNA
import Derived.Test.YtoldjebobgocpaaGreatMF
namespace Go.Proofs.YtoldjebobgocpaaGreat
open Go.AM
set_option maxRecDepth 20000
theorem Gc {a b:UInt8}:a<b ↔ a.toNat<b.toNat:=UInt8.lt_iff_toNat_lt
theorem xi:∀ x:List UInt8,Go.Op.bytesLess x x=false
 | []=>rfl
 | a :: x => by
   have h:¬ a<a:=by rw [Gc];omega
   rw [Go.Op.bytesLess,xi x];simp [h]
theorem A2:∀ x y z:List UInt8,Go.Op.bytesLess x y=true->Go.Op.bytesLess y z=true->Go.Op.bytesLess x z=true
 | [],[],_,h,_=>by simp [Go.Op.bytesLess] at h
 |_::_,[],_,h,_=>by simp [Go.Op.bytesLess] at h
 |_,_::_,[],_,h=>by simp [Go.Op.bytesLess] at h
 | [],_::_,_::_,_,_=>rfl
 | a :: x, b :: y, c :: z, h1, h2 => by
   rw [Go.Op.bytesLess] at h1 h2 ⊢;simp only [Bool.or_eq_true,Bool.and_eq_true,decide_eq_true_eq,beq_iff_eq] at h1 h2 ⊢;rcases h1 with h1|⟨rfl,h1⟩
   ·rcases h2 with h2|⟨rfl,h2⟩
    ·rw [Gc] at h1 h2 ⊢;exact .inl (by omega)
    ·exact .inl h1
   ·rcases h2 with h2|⟨rfl,h2⟩
    ·exact .inl h2
    ·exact .inr ⟨rfl,A2 x y z h1 h2⟩
theorem Jd:∀ x y:List UInt8,Go.Op.bytesLess x y=true\/x=y\/Go.Op.bytesLess y x=true
 | [],[]=>.inr (.inl rfl)
 | [],_::_=>.inl rfl
 |_::_,[]=>.inr (.inr rfl)
 | a :: x, b :: y => by
   rw [Go.Op.bytesLess,Go.Op.bytesLess];simp only [Bool.or_eq_true,Bool.and_eq_true,decide_eq_true_eq,beq_iff_eq,List.cons.injEq];by_cases h1:a<b
   ·exact .inl (.inl h1)
   ·by_cases h2:a=b
    ·rcases Jd x y with h|h|h
     ·exact .inl (.inr ⟨h2,h⟩)
     ·exact .inr (.inl ⟨h2,h⟩)
     ·exact .inr (.inr (.inr ⟨h2.symm,h⟩))
    ·have h3:b<a:=by
      rw [Gc] at h1 ⊢;have:a.toNat≠b.toNat:=λh=>h2 (UInt8.toNat_inj.1 h)
      omega
     exact .inr (.inr (.inl h3))
theorem FA {a b:ByteArray} (h:a.toList=b.toList):a=b:=by
 rw [ByteArray.toList_eq,ByteArray.toList_eq] at h;obtain ⟨⟨a⟩⟩:=a;obtain ⟨⟨b⟩⟩:=b;simp only at h;rw [h]
theorem lS (a:ByteArray):¬ sLt a a:=by unfold sLt;rw [xi];simp
theorem nI {a b c:ByteArray} (h1:sLt a b) (h2:sLt b c):sLt a c:=A2 _ _ _ h1 h2
theorem Dn {a b:ByteArray} (h1:¬ sLt a b) (h2:a≠b):sLt b a:=by
 rcases Jd a.toList b.toList with h|h|h
 ·exact absurd h h1
 ·exact absurd (FA h) h2
 ·exact h
def qu (a b:Doc):Prop:=sLt a.name b.name
def OQ (l:List Doc):Prop:=(∀ d∈l,aN d)/\l.Pairwise qu
def TL (docs:List Doc) (last:Int) (s:Sub):Prop:=(1<=s.id/\s.id<=last)/\aZ s.r/\∃ d∈docs,d.name=s.doc/\(s.r.out=false->s.r.next+s.r.list.length=ac d+1)
def Dj (a b:Sub):Prop:=a.id<b.id
theorem ry {l:List Doc} (hp:l.Pairwise qu) {k:Nat} (hk:k<l.length):az l l[k].name=k:=
 kF hk rfl (λj hj hjl e=>by
  have h1:qu l[j] l[k]:=List.pairwise_iff_getElem.1 hp j k hjl hk hj;unfold qu at h1;rw [show l[j].name=l[k].name from e] at h1;exact lS _ h1)
theorem DV {l:List Doc} (hp:l.Pairwise qu) {a b:Doc} (ha:a∈l) (hb:b∈l) (h:a.name=b.name):a=b:=by
 obtain ⟨i,hi,rfl⟩:=List.getElem_of_mem ha;obtain ⟨j,hj,rfl⟩:=List.getElem_of_mem hb;have e1:=ry hp hi;have e2:=ry hp hj;rw [h,e2] at e1;have:i=j:=by omega
 subst this;rfl
theorem mj {l:List Doc} {name:ByteArray}:0<=az l name ↔ ∃ d∈l,d.name=name:=by
 constructor
 ·intro h
  rcases bJ l name with ⟨k,hk,-,hn⟩|e
  ·exact ⟨_,List.getElem_mem hk,hn⟩
  ·omega
 ·rintro ⟨d,hd,hn⟩
  rcases e8 (λd:Doc=>d.name=name) l with ⟨k,hk,e,-⟩|⟨-,h⟩
  ·unfold az;omega
  ·obtain ⟨i,hi,rfl⟩:=List.getElem_of_mem hd
   exact absurd hn (h i hi)
theorem iJ {h:Hub}:ao h ↔ h.docs.length<=5/\h.subs.length<=6/\(0<=h.last/\h.last<=1000000000)/\OQ h.docs/\(∀ s∈h.subs,TL h.docs h.last s)/\h.subs.Pairwise Dj:=by
 constructor
 ·rintro ⟨h1,h2,h3,h4,h5⟩
  refine ⟨h1,h2,h3,⟨λd hd=>?_,lv (R:=qu) (λ_ _ _=>nI) λi hi h0=>(h4 i hi).2 h0⟩,λs hs=>?_,lv (R:=Dj) (λ_ _ _=>Int.lt_trans) λi hi h0=>(h5 i hi).2.2.1 h0⟩
  ·obtain ⟨i,hi,rfl⟩:=List.getElem_of_mem hd
   exact (h4 i hi).1
  ·obtain ⟨i,hi,rfl⟩:=List.getElem_of_mem hs
   obtain ⟨g1,g2,-,k,hk,e,g3⟩:=h5 i hi;refine ⟨g1,g2,h.docs[k],List.getElem_mem hk,?_,g3⟩;rcases bJ h.docs h.subs[i].doc with ⟨j,hj,e',hn⟩|e'
   ·have:j=k:=by omega
    subst this;exact hn
   ·omega
 ·rintro ⟨h1,h2,h3,⟨h4,h5⟩,h6,h7⟩
  refine ⟨h1,h2,h3,λi hi=>⟨h4 _ (List.getElem_mem hi),λh0=>oj h5 i hi h0⟩,λi hi=>?_⟩;obtain ⟨g1,g2,d,hd,hn,g3⟩:=h6 _ (List.getElem_mem hi);obtain ⟨k,hk,rfl⟩:=List.getElem_of_mem hd;refine ⟨g1,g2,λh0=>oj h7 i hi h0,k,hk,?_,g3⟩;rw [<- hn];exact ry h5 hk
theorem ke {d x:Doc}:∀ {l:List Doc},x∈gk d l ↔ x=d\/x∈l
 | []=>by simp [gk]
 | y :: l => by
   unfold gk
   split
   ·rw [List.mem_cons,ke (l:=l),List.mem_cons]
    constructor
    ·rintro (h|h|h)
     ·exact .inr (.inl h)
     ·exact .inl h
     ·exact .inr (.inr h)
    ·rintro (h|h|h)
     ·exact .inr (.inl h)
     ·exact .inl h
     ·exact .inr (.inr h)
   ·rw [List.mem_cons]
theorem xd {d:Doc}:∀ {l:List Doc},l.Pairwise qu->(∀ x∈l,x.name≠d.name)->(gk d l).Pairwise qu
 | [],_,_=>by simp [gk]
 | y :: l, h, hn => by
   obtain ⟨h1,h2⟩:=List.pairwise_cons.1 h;unfold gk
   split
   ·rename_i hc
    refine List.pairwise_cons.2 ⟨λx hx=>?_,xd h2 (λx hx=>hn x (List.mem_cons_of_mem _ hx))⟩;rcases ke.1 hx with rfl|hx
    ·exact hc
    ·exact h1 x hx
   ·rename_i hc
    have h3:qu d y:=Dn hc (hn y (List.mem_cons_self ..));refine List.pairwise_cons.2 ⟨λx hx=>?_,h⟩;rcases List.mem_cons.1 hx with rfl|hx
    ·exact h3
    ·exact nI h3 (h1 x hx)
theorem uH (d:Doc):∀ l:List Doc,(gk d l).length=l.length+1
 | []=>rfl
 | y :: l => by
   unfold gk
   split
   ·simp [uH d l]
   ·rfl
def gu (a b:List Doc):Prop:=∀ name,(∃ d∈a,d.name=name)->∃ d∈b,d.name=name
theorem Kd {h:Hub} (c:ao h) {name:ByteArray} {t:List Int} (hd:aN (dM name t)) (hi:¬ 0<=az h.docs name) (hl:¬ h.docs.length=5):ao ⟨h.shut,gk (dM name t) h.docs,h.subs,h.last⟩:=by
 rw [iJ] at c ⊢;obtain ⟨h1,h2,h3,⟨h4,h5⟩,h6,h7⟩:=c;have hn:∀ x∈h.docs,x.name≠(dM name t).name:=λx hx e=>hi (mj.2 ⟨x,hx,e⟩)
 refine ⟨by rw [uH];omega,h2,h3,⟨λd hx=>?_,xd h5 hn⟩,λs hs=>?_,h7⟩
 ·rcases ke.1 hx with rfl|hx
  ·exact hd
  ·exact h4 d hx
 ·obtain ⟨g1,g2,d,hx,g3⟩:=h6 s hs
  exact ⟨g1,g2,d,ke.2 (.inr hx),g3⟩
theorem zH {r:Ring} (h:aZ r) {e:Entry} (he:br e):aZ (bZ r e)/\((bZ r e).out=false->r.out=false/\(bZ r e).next=r.next/\(bZ r e).list.length=r.list.length+1):=by
 by_cases c:r.out=false
 ·obtain ⟨g1,g2,g3,g4,g5⟩:=h
  by_cases f:(r.list.length:Int)=r.cap
  ·rw [j9 ⟨⟨g1,g2,g3,g4,g5⟩,he,c⟩ f]
   exact ⟨⟨by simp,g2,g3,by simp only [List.length_nil];omega,by simp⟩,by simp⟩
  ·rw [j8 ⟨⟨g1,g2,g3,g4,g5⟩,he,c⟩ f]
   refine ⟨⟨λx hx=>?_,g2,g3,by simp only [List.length_append,List.length_cons,List.length_nil];omega,by rw [c];simp⟩,λ_=>⟨c,rfl,by simp⟩⟩;rcases List.mem_append.1 hx with hx|hx
   ·exact g1 x hx
   ·simp at hx;subst hx;exact he
 ·rw [mf (λh=>c h.2.2)]
  exact ⟨h,λh=>absurd h c⟩
theorem xM {α β:Type} {R:β->β->Prop} {f:α->β} {l:List α} {k:Nat} {x:α} (hk:k<l.length) (hf:f x=f l[k]) (h:l.Pairwise λa b=>R (f a) (f b)):(l.set k x).Pairwise λa b=>R (f a) (f b):=by
 have h1:(l.map f).Pairwise R:=List.pairwise_map.2 h
 have e:(l.set k x).map f=l.map f:=by
  rw [List.map_set,hf];refine List.ext_getElem (by simp) (λj h1 h2=>?_);rw [List.getElem_set]
  split
  ·rename_i e;subst e;simp
  ·rfl
 rw [<- e] at h1;exact List.pairwise_map.1 h1
theorem B0 {α:Type} {l:List α} {k:Nat} {x y:α} (hk:k<l.length) (hy:y∈l) (hne:y≠l[k]):y∈l.set k x:=by
 obtain ⟨j,hj,rfl⟩:=List.getElem_of_mem hy;have hjk:k≠j:=λe=>by subst e;exact hne rfl
 have:(l.set k x)[j]'(by simpa using hj)=l[j]:=by rw [List.getElem_set_ne hjk]
 rw [<- this];exact List.getElem_mem _
theorem t5 {α:Type} {l:List α} {k:Nat} {x:α} (hk:k<l.length):x∈l.set k x:=List.mem_set hk x
theorem Fu {h:Hub} (c:ao h) {name:ByteArray} {k:Nat} (hk:k<h.docs.length) (hn:h.docs[k].name=name) {D:Doc} (hD:aN D) (hDn:D.name=h.docs[k].name)
 (hor:D=h.docs[k]\/∃ e,br e/\ac D=ac h.docs[k]+1/\D.list.getLast? = some e):ao (cB h name k h.docs[k] D)/\gu h.docs (cB h name k h.docs[k] D).docs:=by
 rcases hor with rfl|⟨e,he,hr,hg⟩
 ·have e1:cB h name k h.docs[k] h.docs[k]=h:=by
   unfold cB;rw [if_neg (by omega),List.set_getElem_self]
  rw [e1];exact ⟨c,λ_ h=>h⟩
 ·have e1:cB h name k h.docs[k] D=⟨h.shut,h.docs.set k D,h.subs.map (di name e),h.last⟩:=by
   unfold cB;rw [if_pos (by omega),hg]
  rw [e1];rw [iJ] at c ⊢;obtain ⟨h1,h2,h3,⟨h4,h5⟩,h6,h7⟩:=c;have hkeep:∀ d∈h.docs,d.name≠name->d∈h.docs.set k D:=λd hd hne=>B0 hk hd (λe=>hne (by rw [e,hn]))
  refine ⟨⟨by simpa using h1,by simpa using h2,h3,⟨λd hd=>?_,xM (f:=Doc.name) (R:=sLt) hk hDn h5⟩,λs hs=>?_,?_⟩,?_⟩
  ·rcases List.mem_or_eq_of_mem_set hd with hd|rfl
   ·exact h4 d hd
   ·exact hD
  ·rw [List.mem_map] at hs
   obtain ⟨s,hs,rfl⟩:=hs;obtain ⟨g1,g2,d,hd,hdn,g3⟩:=h6 s hs;unfold di
   split
   ·rename_i hc
    have hu:d=h.docs[k]:=DV h5 hd (List.getElem_mem hk) (by rw [hdn,hc,hn]);subst hu;obtain ⟨p1,p2⟩:=zH g2 he;refine ⟨g1,p1,D,t5 hk,by rw [hDn,hdn],λho=>?_⟩;obtain ⟨q1,q2,q3⟩:=p2 ho;have:=g3 q1;simp only at q2 q3 ⊢;omega
   ·rename_i hc
    exact ⟨g1,g2,d,hkeep d hd (λe=>hc (by rw [<- hdn,e])),hdn,g3⟩
  ·rw [List.pairwise_map]
   refine h7.imp ?_;intro a b hab;have ea:∀ s:Sub,(di name e s).id=s.id:=λs=>by unfold di;split<;>rfl
   unfold Dj;rw [ea,ea];exact hab
  ·rintro nm ⟨d,hd,hdn⟩
   by_cases hc:d.name=name
   ·exact ⟨D,t5 hk,by rw [hDn,hn,<- hc,hdn]⟩
   ·exact ⟨d,hkeep d hd hc,hdn⟩
theorem xB {h:Hub} (c:ao h) {room:Int} (hr:1<=room/\room<=6) {k:Nat} (hk:k<h.docs.length) (hl:¬ (h.subs.length=6\/h.last=1000000000)) :
 ao ⟨h.shut,h.docs,h.subs++[⟨h.last+1,h.docs[k].name,(dx room (ac h.docs[k])).1⟩],h.last+1⟩:=by
 have hh:=aX (cA c hk);have hring:aZ (a8 room (ac h.docs[k])):=⟨by simp [a8],hr,by simp only [a8];omega,by simp only [a8,List.length_nil];omega,by simp [a8]⟩;rw [jM hring];rw [iJ] at c ⊢;obtain ⟨h1,h2,h3,h4,h6,h7⟩:=c;refine ⟨h1,by simp only [List.length_append,List.length_cons,List.length_nil];omega,by simp only;omega,h4,λs hs=>?_,?_⟩
 ·rcases List.mem_append.1 hs with hs|hs
  ·obtain ⟨g1,g2⟩:=h6 s hs
   exact ⟨by simp only;omega,g2⟩
  ·simp at hs
   subst hs;exact ⟨by simp only;omega,hring,_,List.getElem_mem hk,rfl,λ_=>by simp [a8]⟩
 ·rw [List.pairwise_append]
  refine ⟨h7,by simp,λa ha b hb=>?_⟩;simp at hb;subst hb;have:=(h6 a ha).1;unfold Dj;simp only;omega
theorem v8 {h:Hub} (c:ao h) {k:Nat} (hk:k<h.subs.length) {r:Ring} (hr:aZ r) (hd:∀ d∈h.docs,d.name=h.subs[k].doc->(h.subs[k].r.out=false->h.subs[k].r.next+h.subs[k].r.list.length=ac d+1)->r.out=false->r.next+r.list.length=ac d+1) :
 ao ⟨h.shut,h.docs,h.subs.set k ⟨h.subs[k].id,h.subs[k].doc,r⟩,h.last⟩:=by
 rw [iJ] at c ⊢;obtain ⟨h1,h2,h3,h4,h6,h7⟩:=c;refine ⟨h1,by simpa using h2,h3,h4,λs hs=>?_,xM (f:=Sub.id) (R:=λa b:Int=>a<b) hk rfl h7⟩;rcases List.mem_or_eq_of_mem_set hs with hs|rfl
 ·exact h6 s hs
 ·obtain ⟨g1,g2,d,hx,hn,g3⟩:=h6 _ (List.getElem_mem hk)
  exact ⟨g1,hr,d,hx,hn,hd d hx hn g3⟩
theorem nj {h:Hub} {name:ByteArray} {t:List Int} (hz:(aY h name t).2=0):ao (aY h name t).1/\gu h.docs (aY h name t).1.docs:=by
 unfold aY at hz ⊢
 split at hz
 ·rename_i c
  rw [if_pos c]
  split at hz
  ·simp at hz
  ·rename_i c1
   rw [if_neg c1]
   split at hz
   ·simp at hz
   ·rename_i c2
    rw [if_neg c2]
    split at hz
    ·simp at hz
    ·rename_i c3
     rw [if_neg c3];exact ⟨Kd c.1 c.2 c2 c3,λnm ⟨d,hd,e⟩=>⟨d,ke.2 (.inr hd),e⟩⟩
 ·simp at hz
theorem gp {h:Hub} {name:ByteArray} {client seq base:Int} {o:List Part} (hz:(aF h name client seq base o).2.2=0):ao (aF h name client seq base o).1/\gu h.docs (aF h name client seq base o).1.docs:=by
 by_cases c:ao h
 rotate_left
 ·rw [ld c] at hz;simp at hz
 by_cases s:h.shut=true
 ·rw [jq c s] at hz;simp at hz
 rcases bJ h.docs name with ⟨k,hk,e,hn⟩|e;rotate_left
 ·rw [jr c s e] at hz;simp at hz
 rw [lg c s hk e] at hz ⊢
 split at hz
 ·rename_i h0
  rw [if_pos h0];obtain ⟨d1,d2,d3⟩:=oP (cA c hk) h0;refine Fu c hk hn d1 d2 ?_;rcases d3 with d3|⟨e,he,-,-,d3,-⟩
  ·exact .inl d3
  ·rw [d3];exact .inr ⟨e,he,mi (cA c hk) e⟩
 ·rename_i h0;exact absurd hz h0
theorem lH {h:Hub} {name:ByteArray} {room:Int} (hz:(au h name room).2.2=0):ao (au h name room).1/\gu h.docs (au h name room).1.docs:=by
 by_cases c:ao h/\(1<=room/\room<=6)
 rotate_left
 ·rw [eO c] at hz;simp at hz
 by_cases s:h.shut=true
 ·rw [gE c s] at hz;simp at hz
 rcases bJ h.docs name with ⟨k,hk,e,hn⟩|e;rotate_left
 ·rw [gF c s e] at hz;simp at hz
 rw [iN c s hk e] at hz ⊢
 split at hz
 ·simp at hz
 ·rename_i hl
  rw [if_neg hl];subst hn;exact ⟨xB c.1 c.2 hk hl,λ_ h=>h⟩
theorem sj {h:Hub} {id n:Int} (hz:(bo h id n).2.2=0):ao (bo h id n).1/\gu h.docs (bo h id n).1.docs:=by
 by_cases c:ao h/\1<=n
 rotate_left
 ·rw [jk c] at hz;simp at hz
 rcases fW h.subs id with ⟨k,hk,e,-⟩|e;rotate_left
 ·rw [lj c e] at hz;simp at hz
 rw [ni c hk e] at hz ⊢
 split at hz
 ·rename_i h0
  rw [if_pos h0];refine ⟨?_,λ_ h=>h⟩;have hro:=(sQ c.1 hk).1;obtain ⟨g1,g2,g3,g4,g5⟩:=hro;have hsub:=(iJ.1 c.1).2.2.2.2.1 _ (List.getElem_mem hk);obtain ⟨-,-,d0,hd0,hn0,hnx⟩:=hsub;obtain ⟨i0,hi0,rfl⟩:=List.getElem_of_mem hd0;have hh:=aX (cA c.1 hi0)
  cases ho:h.subs[k].r.out with
  |true=>rw [lc ⟨⟨g1,g2,g3,g4,g5⟩,c.2⟩ ho] at h0;simp at h0
  |false=>
  rw [k9 ⟨⟨g1,g2,g3,g4,g5⟩,c.2⟩ ho rfl];have hk1:min n.toNat h.subs[k].r.list.length<=h.subs[k].r.list.length:=Nat.min_le_right _ _;have hnx:=hnx ho;generalize min n.toNat h.subs[k].r.list.length=m at hk1;refine v8 c.1 hk ⟨λx hx=>g1 x (List.mem_of_mem_drop hx),g2,by simp only;omega,by simp only [List.length_drop];omega,by simp only;rw [ho];simp⟩ ?_;intro d hd hdn hnext _;have:=hnext ho;simp only [List.length_drop];omega
 ·rename_i h0;exact absurd hz h0
theorem oR {h:Hub} {id:Int} (hz:(aI h id).2.2.2=0):ao (aI h id).1/\gu h.docs (aI h id).1.docs:=by
 by_cases c:ao h
 rotate_left
 ·rw [lh c] at hz;simp at hz
 rcases fW h.subs id with ⟨k,hk,e,-⟩|e;rotate_left
 ·rw [jt c e] at hz;simp at hz
 obtain ⟨hro,j,hj,ej⟩:=sQ c hk;rw [li c hk e hj ej];refine ⟨?_,λ_ h=>h⟩;have hh:=aX (cA c hj)
 have hjn:h.docs[j].name=h.subs[k].doc:=by
  rcases bJ h.docs h.subs[k].doc with ⟨i,hi,e',hn⟩|e'
  ·have:i=j:=by omega
   subst this;exact hn
  ·omega
 have hring:aZ (a8 h.subs[k].r.cap (ac h.docs[j])):=⟨by simp [a8],hro.2.1,by simp only [a8];omega,by have:=hro.2.1;simp only [a8,List.length_nil];omega,by simp [a8]⟩;rw [jp hro,jM hring];refine v8 c hk hring ?_;intro d hd hdn _ _;have:=DV (iJ.1 c).2.2.2.1.2 hd (List.getElem_mem hj) (by rw [hdn,hjn]);subst this;simp [a8]
theorem AS {h:Hub} (hz:(bS h).2=0):ao (bS h).1/\gu h.docs (bS h).1.docs:=by
 unfold bS at hz ⊢
 split at hz
 ·rename_i c
  rw [if_pos c]
  split at hz
  ·simp at hz
  ·rename_i c1
   rw [if_neg c1];exact ⟨c,λ_ h=>h⟩
 ·simp at hz
theorem ru {h:Hub} (c:ao h) (k:Call):ao (fDo h k).1/\gu h.docs (fDo h k).1.docs:=by
 have same:ao h/\gu h.docs h.docs:=⟨c,λ_ h=>h⟩;unfold fDo
 split
 ·split
  ·split
   ·rename_i z;exact nj z
   ·exact same
  ·split
   ·split
    ·rename_i z;exact gp z
    ·exact same
   ·split
    ·exact same
    ·split
     ·split
      ·rename_i z;exact lH z
      ·exact same
     ·split
      ·split
       ·rename_i z;exact sj z
       ·exact same
      ·split
       ·split
        ·rename_i z;exact oR z
        ·exact same
       ·split
        ·rename_i z;exact AS z
        ·exact same
 ·exact same
def cC (l:List Int):List Int:=l.filter λn=>decide (n≠-1)
theorem gY (a b:List Int):cC (a++b)=cC a++cC b:=by unfold cC;rw [List.filter_append]
theorem lQ {step:Int}:∀ (l met:List Int),(aU step met l).isSome=true ↔ (∀ n∈cC l,n<step)/\(cC l).Nodup/\∀ n∈cC l,n ∉ met
 | [],met=>by simp [aU,cC]
 | n :: l, met => by
   unfold aU;by_cases h:n = -1
   ·have e:cC (n::l)=cC l:=by simp [cC,h]
    rw [if_pos h,e];exact lQ l met
   ·have e:cC (n::l)=n::cC l:=by simp [cC,h]
    rw [if_neg h,e];by_cases h2:n ≥ step\/n∈met
    ·rw [if_pos h2]
     simp only [Option.isSome_none,Bool.false_eq_true,false_iff]
     rintro ⟨h3,-,h4⟩
     rcases h2 with h2|h2
     ·have:=h3 n (List.mem_cons_self ..);omega
     ·exact h4 n (List.mem_cons_self ..) h2
    ·rw [if_neg h2,lQ l (met++[n]),List.nodup_cons]
     constructor
     ·rintro ⟨h3,h4,h5⟩
      refine ⟨λm hm=>?_,⟨λhm=>h5 n hm (by simp),h4⟩,λm hm=>?_⟩
      ·rcases List.mem_cons.1 hm with rfl|hm
       ·omega
       ·exact h3 m hm
      ·rcases List.mem_cons.1 hm with rfl|hm
       ·exact λh=>h2 (.inr h)
       ·exact λh=>h5 m hm (by simp [h])
     ·rintro ⟨h3,⟨h4,h5⟩,h6⟩
      refine ⟨λm hm=>h3 m (List.mem_cons_of_mem _ hm),h5,λm hm hc=>?_⟩;rcases List.mem_append.1 hc with hc|hc
      ·exact h6 m (List.mem_cons_of_mem _ hm) hc
      ·simp at hc;subst hc;exact h4 hm
def fv (tasks:List Task) (step:Int):Prop:=(∀ n∈cC (tasks.flatMap bf),n<step)/\(cC (tasks.flatMap bf)).Nodup
theorem rM {w:Wld}:fY w ↔ fv w.tasks w.step:=by
 unfold fY fv;rw [lQ];simp
theorem tc {l:List Task} {k:Nat} (hk:k<l.length) (t:Task):cC ((l.set k t).flatMap bf)=cC ((l.take k).flatMap bf)++(cC (bf t)++cC ((l.drop (k+1)).flatMap bf)):=by
 rw [List.set_eq_take_append_cons_drop,if_pos hk,List.flatMap_append,List.flatMap_cons,gY,gY]
theorem Dh {l:List Task} {k:Nat} (hk:k<l.length):cC (l.flatMap bf)=cC ((l.take k).flatMap bf)++(cC (bf l[k])++cC ((l.drop (k+1)).flatMap bf)):=by
 have h:=tc hk l[k];rw [List.set_getElem_self] at h;exact h
theorem lP {l:List Task} {step step':Int} {k:Nat} (hk:k<l.length) {t:Task} (h:fv l step) (ht:cC (bf t)=cC (bf l[k])) (hs:step<=step'):fv (l.set k t) step':=by
 have e:cC ((l.set k t).flatMap bf)=cC (l.flatMap bf):=by rw [tc hk,Dh hk,ht]
 unfold fv;rw [e];exact ⟨λn hn=>by have:=h.1 n hn;omega,h.2⟩
theorem tp {l:List Task} {step:Int} {k:Nat} (hk:k<l.length) {t:Task} (h:fv l step) (ht:cC (bf t)=cC (bf l[k])++[step]):fv (l.set k t) (step+1):=by
 have e:(cC ((l.set k t).flatMap bf)).Perm (step::cC (l.flatMap bf)):=by
  rw [tc hk,Dh hk,ht];generalize cC ((l.take k).flatMap bf)=A;generalize cC (bf l[k])=T;generalize cC ((l.drop (k+1)).flatMap bf)=B;rw [List.append_assoc,<- List.append_assoc A T,<- List.append_assoc A T];exact List.perm_middle
 unfold fv;refine ⟨λn hn=>?_,?_⟩
 ·rcases List.mem_cons.1 (e.mem_iff.1 hn) with rfl|hn
  ·omega
  ·have:=h.1 n hn;omega
 ·rw [e.nodup_iff,List.nodup_cons]
  exact ⟨λhm=>by have:=h.1 _ hm;omega,h.2⟩
theorem Bu {l:List Task} {step:Int} (h:fv l step) {c:Call} (h0:0<=step):fv (l++[dk c step]) (step+1):=by
 have e:cC ((l++[dk c step]).flatMap bf)=cC (l.flatMap bf)++[step]:=by
  rw [List.flatMap_append,gY]
  congr 1
  have:¬ step = -1:=by omega
  simp [bf,dk,cC,this]
 unfold fv;rw [e];refine ⟨λn hn=>?_,?_⟩
 ·rcases List.mem_append.1 hn with hn|hn
  ·have:=h.1 n hn;omega
  ·simp at hn;omega
 ·rw [List.nodup_append]
  refine ⟨h.2,by simp,λa ha b hb=>?_⟩;simp at hb;have:=h.1 a ha;omega
theorem mJ {l:List Task} {step:Int} (h:fv l step) {t:Task} (ht:t∈l) {n:Int} (hn:n∈bf t) (h1:n≠-1):n<step:=by
 refine h.1 n ?_;unfold cC;rw [List.mem_filter];exact ⟨List.mem_flatMap.2 ⟨t,ht,hn⟩,by simpa using h1⟩
def tJ (docs:List Doc) (q:Queue):Prop:=(1<=q.list.length/\q.list.length<=2)/\∃ d∈docs,d.name=q.doc
def jG (a b:Queue):Prop:=sLt a.doc b.doc
def bN (l:List Queue):List Int:=l.flatMap Queue.list
structure QIn (docs:List Doc) (queues:List Queue) (tasks:List Task):Prop where
 one:∀ q∈queues,tJ docs q
 ord:queues.Pairwise jG
 may:∀ q∈queues,∀ k∈q.list,eI tasks q.doc k
 nodup:(bN queues).Nodup
 all:∀ k,∀ hk:k<tasks.length,tasks[k].pc=2->(k:Int)∈bN queues
theorem pM {tasks:List Task} {doc:ByteArray}:∀ (l all m:List Int),bg tasks doc all l=some m ↔ (∀ k∈l,eI tasks doc k)/\l.Nodup/\(∀ k∈l,k ∉ all)/\m=all++l
 | [],all,m=>by simp [bg];exact ⟨λh=>h.symm,λh=>h.symm⟩
 | k :: l, all, m => by
   unfold bg;by_cases h:eI tasks doc k/\k ∉ all
   ·rw [if_pos h,pM l (all++[k]) m,List.nodup_cons]
    constructor
    ·rintro ⟨h1,h2,h3,h4⟩
     refine ⟨λj hj=>?_,⟨λhm=>h3 k hm (by simp),h2⟩,λj hj=>?_,by rw [h4];simp⟩
     ·rcases List.mem_cons.1 hj with rfl|hj
      ·exact h.1
      ·exact h1 j hj
     ·rcases List.mem_cons.1 hj with rfl|hj
      ·exact h.2
      ·exact λhc=>h3 j hj (by simp [hc])
    ·rintro ⟨h1,⟨h2,h3⟩,h4,h5⟩
     refine ⟨λj hj=>h1 j (List.mem_cons_of_mem _ hj),h3,λj hj hc=>?_,by rw [h5];simp⟩;rcases List.mem_append.1 hc with hc|hc
     ·exact h4 j (List.mem_cons_of_mem _ hj) hc
     ·simp at hc;subst hc;exact h2 hj
   ·rw [if_neg h]
    simp only [reduceCtorEq,false_iff]
    rintro ⟨h1,-,h3,-⟩
    exact h ⟨h1 k (List.mem_cons_self ..),h3 k (List.mem_cons_self ..)⟩
theorem zk {l:List Queue} {i:Nat} (h:i<l.length):bN (l.take (i+1))=bN (l.take i)++l[i].list:=by
 unfold bN;rw [<- List.take_append_getElem h,List.flatMap_append];simp
theorem kR {w:Wld}:∀ (i:Nat),i<=w.queues.length->∀ all,bT w i=some all ↔ (∀ j,j<i->eY w.h w.queues j)/\(∀ q∈w.queues.take i,∀ k∈q.list,eI w.tasks q.doc k)/\(bN (w.queues.take i)).Nodup/\all=bN (w.queues.take i)
 |0,_,all=>by simp [bT,bN];try exact ⟨λh=>h.symm,λh=>h.symm⟩
 | i + 1, hi, all => by
   have hlt:i<w.queues.length:=by omega
   have ih:=kR (w:=w) i (by omega);have hmem:∀ q,q∈w.queues.take (i+1) ↔ q∈w.queues.take i\/q=w.queues[i]:=λq=>by rw [<- List.take_append_getElem hlt,List.mem_append];simp
   rw [zk hlt];by_cases hq:eY w.h w.queues i
   rotate_left
   ·rw [fh hlt hq]
    simp only [reduceCtorEq,false_iff]
    rintro ⟨h,-⟩
    exact hq (h i (by omega))
   have hupto:(∀ j,j<i+1->eY w.h w.queues j) ↔ ∀ j,j<i->eY w.h w.queues j:=by
    constructor
    ·exact λh j hj=>h j (by omega)
    ·intro h j hj
     by_cases e:j=i
     ·subst e;exact hq
     ·exact h j (by omega)
   rw [hupto]
   cases e:bT w i with
   | none =>
     have hn:=ic e 1;rw [hn];simp only [reduceCtorEq,false_iff]
     rintro ⟨h1,h2,h3,h4⟩
     have:bT w i=some (bN (w.queues.take i)):=(ih _).2 ⟨h1,λq hqm=>h2 q ((hmem q).2 (.inl hqm)),(List.nodup_append.1 h3).1,rfl⟩;rw [e] at this
     cases this
   | some m =>
     obtain ⟨h1,h2,h3,h4⟩:=(ih m).1 e;rw [fg hlt e hq,pM,h4,List.nodup_append]
     constructor
     ·rintro ⟨g1,g2,g3,g4⟩
      refine ⟨h1,λq hqm=>?_,⟨h3,g2,λa ha b hb hab=>?_⟩,g4⟩
      ·rcases (hmem q).1 hqm with hqm|rfl
       ·exact h2 q hqm
       ·exact g1
      ·subst hab;exact g3 a hb ha
     ·rintro ⟨-,g2,⟨g3,g4,g5⟩,g6⟩
      exact ⟨g2 _ ((hmem _).2 (.inr rfl)),g4,λk hk hc=>g5 k hc k hk rfl,g6⟩
theorem lU {w:Wld}:cJ w ↔ QIn w.h.docs w.queues w.tasks:=by
 unfold cJ
 constructor
 ·rintro ⟨all,h1,h2⟩
  obtain ⟨g1,g2,g3,g4⟩:=(kR w.queues.length (Nat.le_refl _) all).1 h1;rw [List.take_length] at g2 g3 g4;subst g4;refine ⟨λq hq=>?_,lv (R:=jG) (λ_ _ _=>nI) λi hi h0=>(g1 i hi hi).1 h0,g2,g3,h2⟩;obtain ⟨i,hi,rfl⟩:=List.getElem_of_mem hq;obtain ⟨-,k2,k3⟩:=g1 i hi hi;exact ⟨k2,mj.1 k3⟩
 ·rintro ⟨h1,h2,h3,h4,h5⟩
  refine ⟨bN w.queues,(kR w.queues.length (Nat.le_refl _) _).2 ⟨λj _ hj=>?_,?_,?_,?_⟩,h5⟩
  ·obtain ⟨k1,k2⟩:=h1 _ (List.getElem_mem hj)
   exact ⟨λh0=>oj h2 j hj h0,k1,mj.2 k2⟩
  ·rw [List.take_length];exact h3
  ·rw [List.take_length];exact h4
  ·rw [List.take_length]
structure WIn (w:Wld):Prop where
 tasks:∀ t∈w.tasks,cD t
 hub:ao w.h
 nlock:1<=w.locks.length/\w.locks.length<=4
 ntask:w.tasks.length<=10
 step:0<=w.step/\w.step<=1000000
 steps:fv w.tasks w.step
 locks:eo w
 queues:QIn w.h.docs w.queues w.tasks
theorem cT {w:Wld}:ap w ↔ WIn w:=by
 constructor
 ·rintro ⟨h1,h2,h3,h4,h5,h6,h7,h8⟩
  exact ⟨h1,h2,h3,h4,h5,rM.1 h6,h7,lU.1 h8⟩
 ·rintro ⟨h1,h2,h3,h4,h5,h6,h7,h8⟩
  exact ⟨h1,h2,h3,h4,h5,rM.2 h6,h7,lU.2 h8⟩
theorem ee {l:List Task} {k j:Nat} {t:Task} (hj:j<(l.set k t).length) (hne:j≠k):(l.set k t)[j]=l[j]'(by simpa using hj):=by rw [List.getElem_set_ne (λh=>hne h.symm)]
theorem xX {tasks:List Task} {k:Nat} {t:Task} {doc:ByteArray} {j:Int} (h:eI tasks doc j) (hj:j≠k):eI (tasks.set k t) doc j:=by
 obtain ⟨i,hi,rfl,h1,h2⟩:=h;have hik:i≠k:=by omega
 exact ⟨i,by simpa using hi,rfl,by rw [ee _ hik];exact h1,by rw [ee _ hik];exact h2⟩
theorem Ib {tasks:List Task} {k:Nat} (hk:k<tasks.length) {doc:ByteArray} (h:eI tasks doc k):tasks[k].pc=2:=by
 obtain ⟨i,hi,e,h1,-⟩:=h;have:i=k:=by omega
 subst this;exact h1
theorem Dt {docs docs':List Doc} (h:gu docs docs') {q:Queue} (hq:tJ docs q):tJ docs' q:=⟨hq.1,h _ hq.2⟩
theorem tK {docs docs':List Doc} {queues:List Queue} {tasks:List Task} (h:QIn docs queues tasks) (hn:gu docs docs') {k:Nat} (hk:k<tasks.length) (h1:tasks[k].pc≠2) {t:Task} (h2:t.pc≠2):QIn docs' queues (tasks.set k t):=by
 refine ⟨λq hq=>Dt hn (h.one q hq),h.ord,λq hq j hj=>?_,h.nodup,λj hj hp=>?_⟩
 ·have hm:=h.may q hq j hj
  exact xX hm (λe=>by subst e;exact h1 (Ib hk hm))
 ·by_cases e:j=k
  ·subst e;simp at hp;exact absurd hp h2
  ·rw [ee _ e] at hp
   exact h.all j (by simpa using hj) hp
theorem NP {docs:List Doc} {queues:List Queue} {tasks:List Task} (h:QIn docs queues tasks) {t:Task} (h2:t.pc≠2):QIn docs queues (tasks++[t]):=by
 refine ⟨h.one,h.ord,λq hq j hj=>?_,h.nodup,λj hj hp=>?_⟩
 ·obtain ⟨i,hi,rfl,h3,h4⟩:=h.may q hq j hj
  exact ⟨i,by simp;omega,rfl,by rw [List.getElem_append_left hi];exact h3,by rw [List.getElem_append_left hi];exact h4⟩
 ·by_cases e:j<tasks.length
  ·rw [List.getElem_append_left e] at hp
   exact h.all j e hp
  ·rw [List.getElem_append_right (by omega)] at hp
   simp at hp;exact absurd hp h2
theorem mG {l:List Queue} {i:Nat} (hi:i<l.length) (q:Queue):bN (l.set i q)=bN (l.take i)++(q.list++bN (l.drop (i+1))):=by
 unfold bN;rw [List.set_eq_take_append_cons_drop,if_pos hi,List.flatMap_append,List.flatMap_cons]
theorem sY {l:List Queue} {i:Nat} (hi:i<l.length):bN l=bN (l.take i)++(l[i].list++bN (l.drop (i+1))):=by
 have h:=mG hi l[i]
 rwa [List.set_getElem_self] at h
theorem vz {docs:List Doc} {queues:List Queue} {tasks:List Task} (h:QIn docs queues tasks) {k:Nat} (hk:k<tasks.length) (h1:tasks[k].pc≠2):(k:Int) ∉ bN queues:=by
 intro hm;obtain ⟨q,hq,hkq⟩:=List.mem_flatMap.1 hm;exact h1 (Ib hk (h.may q hq k hkq))
theorem HD {docs:List Doc} {queues queues':List Queue} {tasks:List Task} (h:QIn docs queues tasks) {k:Nat} (hk:k<tasks.length) (h1:tasks[k].pc≠2) {t:Task} (h2:t.pc=2)
 (hone:∀ q∈queues',tJ docs q) (hord:queues'.Pairwise jG) (hp:(bN queues').Perm ((k:Int)::bN queues)) (hin:∀ q∈queues',∀ j∈q.list,(j=k/\q.doc=t.c.doc)\/∃ q0∈queues,q0.doc=q.doc/\j∈q0.list):QIn docs queues' (tasks.set k t):=by
 have hnot:=vz h hk h1;refine ⟨hone,hord,λq hq j hj=>?_,?_,λj hj hpc=>?_⟩
 ·rcases hin q hq j hj with ⟨rfl,e⟩|⟨q0,hq0,e,hj0⟩
  ·exact ⟨k,by simpa using hk,rfl,by simpa using h2,by simp [e]⟩
  ·have hm:=h.may q0 hq0 j hj0
   rw [e] at hm;refine xX hm (λej=>hnot ?_);rw [<- ej];exact List.mem_flatMap.2 ⟨q0,hq0,hj0⟩
 ·rw [hp.nodup_iff,List.nodup_cons]
  exact ⟨hnot,h.nodup⟩
 ·rw [hp.mem_iff,List.mem_cons]
  by_cases e:j=k
  ·subst e;exact .inl rfl
  ·rw [ee _ e] at hpc
   exact .inr (h.all j (by simpa using hj) hpc)
theorem Ds {docs docs':List Doc} {queues queues':List Queue} {tasks:List Task} (h:QIn docs queues tasks) (hn:gu docs docs') {k:Nat} (hk:k<tasks.length) {t:Task} (h2:t.pc≠2)
 (hone:∀ q∈queues',tJ docs q) (hord:queues'.Pairwise jG) (hp:(bN queues).Perm ((k:Int)::bN queues')) (hin:∀ q∈queues',∀ j∈q.list,∃ q0∈queues,q0.doc=q.doc/\j∈q0.list):QIn docs' queues' (tasks.set k t):=by
 have hnd:=h.nodup;rw [hp.nodup_iff,List.nodup_cons] at hnd;refine ⟨λq hq=>Dt hn (hone q hq),hord,λq hq j hj=>?_,hnd.2,λj hj hpc=>?_⟩
 ·obtain ⟨q0,hq0,e,hj0⟩:=hin q hq j hj
  have hm:=h.may q0 hq0 j hj0;rw [e] at hm;refine xX hm (λej=>hnd.1 ?_);rw [<- ej];exact List.mem_flatMap.2 ⟨q,hq,hj⟩
 ·by_cases e:j=k
  ·subst e;simp at hpc;exact absurd hpc h2
  ·rw [ee _ e] at hpc
   have:=h.all j (by simpa using hj) hpc;rw [hp.mem_iff,List.mem_cons] at this;rcases this with h|h
   ·omega
   ·exact h
theorem pf {h h':Hub} {lk:List Int} {qs qs':List Queue} {tasks:List Task} {s s':Int} (h0:eo ⟨h,lk,qs,tasks,s⟩) {k:Nat} (hk:k<tasks.length) (h1:tasks[k].pc≠1) {t:Task} (h2:t.pc≠1):eo ⟨h',lk,qs',tasks.set k t,s'⟩:=by
 obtain ⟨a,b⟩:=h0;refine ⟨λi hi=>?_,λj hj hp=>?_⟩
 ·rcases a i hi with h3|⟨j,hj,h3,h4,h5⟩
  ·exact .inl h3
  ·have e:j≠k:=λe=>by subst e;exact h1 h4
   exact .inr ⟨j,by simpa using hj,h3,by rw [ee _ e];exact h4,by rw [ee _ e];exact h5⟩
 ·by_cases e:j=k
  ·subst e;simp at hp;exact absurd hp h2
  ·simp only at hj hp ⊢
   rw [ee _ e] at hp ⊢;exact b j (by simpa using hj) hp
theorem B3 {h:Hub} {lk:List Int} {qs:List Queue} {tasks:List Task} {s s':Int} (h0:eo ⟨h,lk,qs,tasks,s⟩) {t:Task} (h2:t.pc≠1):eo ⟨h,lk,qs,tasks++[t],s'⟩:=by
 obtain ⟨a,b⟩:=h0;refine ⟨λi hi=>?_,λj hj hp=>?_⟩
 ·rcases a i hi with h3|⟨j,hj,h3,h4,h5⟩
  ·exact .inl h3
  ·have hj':j<tasks.length:=hj
   exact .inr ⟨j,by simp;omega,h3,by rw [List.getElem_append_left hj];exact h4,by rw [List.getElem_append_left hj];exact h5⟩
 ·by_cases e:j<tasks.length
  ·simp only [List.getElem_append_left e] at hp ⊢
   exact b j e hp
  ·simp only at hp
   rw [List.getElem_append_right (by omega)] at hp;simp at hp;exact absurd hp h2
theorem B1 {h:Hub} {lk:List Int} {qs:List Queue} {tasks:List Task} {s s':Int} (h0:eo ⟨h,lk,qs,tasks,s⟩) {k:Nat} (hk:k<tasks.length) (h1:tasks[k].pc≠1) {t:Task} (hc:t.c=tasks[k].c)
 (hf:lk[aQ tasks[k].c.doc lk.length]? = some (-1)):eo ⟨h,lk.set (aQ tasks[k].c.doc lk.length) (k:Int),qs,tasks.set k ⟨t.c,1,t.inv,t.lin,t.rs,t.a⟩,s'⟩:=by
 obtain ⟨a,b⟩:=h0;obtain ⟨hs,hf⟩:=List.getElem?_eq_some_iff.1 hf;generalize hS:aQ tasks[k].c.doc lk.length=S at hs hf;refine ⟨λi hi=>?_,λj hj hp=>?_⟩
 ·simp only [List.length_set] at hi ⊢
  by_cases e:S=i
  ·subst e
   exact .inr ⟨k,by simpa using hk,by simp,by simp,by simp [hc,hS]⟩
  ·rw [List.getElem_set_ne e]
   rcases a i hi with h3|⟨j,hj,h3,h4,h5⟩
   ·exact .inl h3
   ·have e2:j≠k:=λe=>by subst e;exact h1 h4
    exact .inr ⟨j,by simpa using hj,h3,by rw [ee _ e2];exact h4,by rw [ee _ e2];exact h5⟩
 ·simp only [List.length_set] at hj hp ⊢
  by_cases e:j=k
  ·subst e
   simp [hc,hS,hs]
  ·rw [ee _ e] at hp ⊢
   have h3:=b j hj hp;simp only at h3
   have e2:S≠aQ tasks[j].c.doc lk.length:=λe2=>by
    rw [<- e2,List.getElem?_eq_getElem hs,hf] at h3;simp at h3
    try omega
   rw [List.getElem?_set_ne e2];exact h3
theorem B2 {h h':Hub} {lk:List Int} {qs qs':List Queue} {tasks:List Task} {s s':Int} (h0:eo ⟨h,lk,qs,tasks,s⟩) {k:Nat} (hk:k<tasks.length) (h1:tasks[k].pc=1) {t:Task} (h2:t.pc≠1) :
 eo ⟨h',lk.set (aQ tasks[k].c.doc lk.length) (-1),qs',tasks.set k t,s'⟩:=by
 obtain ⟨a,b⟩:=h0;have hm:=b k hk h1;simp only at hm;generalize hS:aQ tasks[k].c.doc lk.length=S at hm;refine ⟨λi hi=>?_,λj hj hp=>?_⟩
 ·simp only [List.length_set] at hi ⊢
  by_cases e:S=i
  ·subst e;exact .inl (by simp)
  ·rw [List.getElem_set_ne e]
   rcases a i hi with h3|⟨j,hj,h3,h4,h5⟩
   ·exact .inl h3
   ·have e2:j≠k:=λe2=>by subst e2;exact e (hS ▸ h5)
    exact .inr ⟨j,by simpa using hj,h3,by rw [ee _ e2];exact h4,by rw [ee _ e2];exact h5⟩
 ·simp only [List.length_set] at hj hp ⊢
  by_cases e:j=k
  ·subst e;simp at hp;exact absurd hp h2
  ·rw [ee _ e] at hp ⊢
   have h3:=b j hj hp;simp only at h3
   have e2:S≠aQ tasks[j].c.doc lk.length:=λe2=>by
    rw [<- e2,hm] at h3;simp at h3;omega
   rw [List.getElem?_set_ne e2];exact h3
theorem AT {w:Wld} {c:Call} (h:(eG w c).2=true):ap (eG w c).1:=by
 unfold eG at h ⊢
 split at h
 ·rename_i hc
  rw [if_pos hc];obtain ⟨⟨W,hcl⟩,hl,hs⟩:=hc;rw [cT] at W ⊢;refine ⟨λt ht=>?_,W.hub,W.nlock,?_,?_,Bu W.steps W.step.1,?_,NP W.queues (by simp [dk])⟩
  ·rcases List.mem_append.1 ht with ht|ht
   ·exact W.tasks t ht
   ·simp at ht
    subst ht;have:=W.step;refine ⟨hcl,this,by simp [dk],by simp [dk],by simp [dk],λ_=>⟨rfl,rfl,rfl⟩,by simp [dk],by simp [dk],by simp [dk]⟩
  ·have:=W.ntask
   simp only [List.length_append,List.length_cons,List.length_nil];omega
  ·have:=W.step
   simp only;omega
  ·exact B3 (s:=w.step) (h:=w.h) (qs:=w.queues) W.locks (by simp [dk])
 ·simp at h
theorem Fl {w:Wld} (W:WIn w) (_hs:¬ w.step=1000000) {k:Nat} (hk:k<w.tasks.length) (hp:w.tasks[k].pc<=2) (a:Answer) :
 cD ⟨w.tasks[k].c,3,w.tasks[k].inv,w.step,w.tasks[k].rs,a⟩/\fv (w.tasks.set k ⟨w.tasks[k].c,3,w.tasks[k].inv,w.step,w.tasks[k].rs,a⟩) (w.step+1):=by
 have ht:=W.tasks _ (List.getElem_mem hk);have hst:=W.step;obtain ⟨g1,g2,g3,g4,g5,g6,g7,g8,g9⟩:=ht;obtain ⟨e1,e2,-⟩:=g6 hp;have hlt:w.tasks[k].inv<w.step:=mJ W.steps (List.getElem_mem hk) (by simp [bf]) (by omega);refine ⟨⟨g1,g2,by simp,by simp,by simp,by simp,λ_=>.inr ⟨by simp only;omega,by simp only;omega⟩,λ_=>e2,by simp⟩,?_⟩;refine tp hk W.steps ?_;have h1:¬ w.tasks[k].inv = -1:=by omega
 have h2:¬ w.step = -1:=by omega
 simp [bf,cC,e1,e2,h1,h2]
theorem yE {w:Wld} (W:WIn w) (hs:¬ w.step=1000000) {k:Nat} (hk:k<w.tasks.length) (hp:w.tasks[k].pc<=2) {lk:List Int} {qs:List Queue} (hlk:lk.length=w.locks.length)
 (hL:∀ t:Task,t.pc≠1->eo ⟨(fDo w.h w.tasks[k].c).1,lk,qs,w.tasks.set k t,w.step+1⟩) (hQ:∀ t:Task,t.pc≠2->QIn (fDo w.h w.tasks[k].c).1.docs qs (w.tasks.set k t)) :
 WIn (bm (ix ⟨w.h,lk,qs,w.tasks,w.step⟩ k w.tasks[k]) (w.step+1)):=by
 obtain ⟨h1,h2⟩:=Fl W hs hk hp (fDo w.h w.tasks[k].c).2;have hst:=W.step;refine ⟨λt ht=>?_,(ru W.hub _).1,?_,?_,?_,h2,hL _ (by simp),hQ _ (by simp)⟩
 ·rcases List.mem_or_eq_of_mem_set ht with ht|rfl
  ·exact W.tasks t ht
  ·exact h1
 ·have:=W.nlock;simp only [bm,ix];omega
 ·have:=W.ntask;simp only [bm,ix,List.length_set];exact this
 ·simp only [bm];omega
theorem J7 {α:Type} (A l B:List α) (k:α):(A++((l++[k])++B)).Perm (k::(A++(l++B))):=by
 have e1:A++((l++[k])++B)=(A++l)++k::B:=by simp
 have e2:A++(l++B)=(A++l)++B:=by simp
 rw [e1,e2];exact List.perm_middle
theorem Is {name:ByteArray} {x:List Int}:∀ {l:List Queue},l.Pairwise jG->(∀ y∈l,y.doc≠name)->(l.take (aL name l)++⟨name,x⟩::l.drop (aL name l)).Pairwise jG
 | [],_,_=>by simp [aL]
 | y :: l, h, hn => by
   obtain ⟨h1,h2⟩:=List.pairwise_cons.1 h;have ih:=Is (name:=name) (x:=x) h2 (λz hz=>hn z (List.mem_cons_of_mem _ hz));unfold aL
   split
   ·rename_i hc
    rw [List.take_succ_cons,List.drop_succ_cons,List.cons_append];refine List.pairwise_cons.2 ⟨λz hz=>?_,ih⟩;rcases List.mem_append.1 hz with hz|hz
    ·exact h1 z (List.mem_of_mem_take hz)
    ·rcases List.mem_cons.1 hz with rfl|hz
     ·exact hc
     ·exact h1 z (List.mem_of_mem_drop hz)
   ·rename_i hc
    have h3:jG ⟨name,x⟩ y:=Dn hc (hn y (List.mem_cons_self ..));rw [List.take_zero,List.drop_zero,List.nil_append];refine List.pairwise_cons.2 ⟨λz hz=>?_,h⟩;rcases List.mem_cons.1 hz with rfl|hz
    ·exact h3
    ·exact nI h3 (h1 z hz)
theorem zM {l:List Queue} {name:ByteArray} (h:bE l name = -1):∀ y∈l,y.doc≠name:=by
 intro y hy e;rcases e8 (λq:Queue=>q.doc=name) l with ⟨k,hk,e',-⟩|⟨-,hn⟩
 ·unfold bE at h;omega
 ·obtain ⟨i,hi,rfl⟩:=List.getElem_of_mem hy
  exact hn i hi e
theorem lD {w:Wld} (W:WIn w) {k:Nat} {t:Task} (ht:cD t):∀ x∈w.tasks.set k t,cD x:=by
 intro x hx;rcases List.mem_or_eq_of_mem_set hx with hx|rfl
 ·exact W.tasks x hx
 ·exact ht
theorem IR {w:Wld} {k:Int} (h:(cr w k).2=true):ap (cr w k).1:=by
 by_cases c:ap w/\¬ w.step=1000000/\(0<=k/\k<=(w.tasks.length:Int) - 1)
 rotate_left
 ·rw [io c] at h;cases h
 obtain ⟨c,hs,h1,h2⟩:=c;obtain ⟨k,rfl⟩:∃ n:Nat,k=n:=⟨k.toNat,by omega⟩;have hk:k<w.tasks.length:=by omega
 rw [ji c hs hk] at h ⊢;have W:=cT.1 c;have hst:=W.step;have ht:=W.tasks _ (List.getElem_mem hk);have hlt:w.tasks[k].inv<w.step:=mJ W.steps (List.getElem_mem hk) (by simp [bf]) (by have:=ht.2.1;omega);obtain ⟨g1,g2,g3,g4,g5,g6,g7,g8,g9⟩:=ht;have hmem:=List.getElem_mem hk;obtain ⟨t,hte⟩:∃ t,w.tasks[k]=t:=⟨_,rfl⟩;rw [cT];have hnt:∀ t:Task,(w.tasks.set k t).length<=10:=λt=>by rw [List.length_set];exact W.ntask
 by_cases p0:w.tasks[k].pc=0
 ·by_cases d:aJ w.tasks[k].c.kind
  ·by_cases f:w.locks[aQ w.tasks[k].c.doc w.locks.length]? = some (-1)
   ·rw [eV p0 d f]
    obtain ⟨e1,e2,e3⟩:=g6 (by omega);refine ⟨lD W ⟨g1,g2,by simp,λ_=>d,by simp,λ_=>⟨e1,e2,e3⟩,by simp,by simp,by simp⟩,W.hub,by simp only [List.length_set];exact W.nlock,hnt _,by simp only;omega,?_,?_,?_⟩
    ·exact lP hk W.steps rfl (by simp only;omega)
    ·exact B1 (h:=w.h) (qs:=w.queues) (s:=w.step) (t:=w.tasks[k]) W.locks hk (by omega) rfl f
    ·exact tK W.queues (λ_ h=>h) hk (by omega) (by simp)
   ·rw [fQ p0 d f] at h;cases h
  ·rw [eW p0 d]
   exact yE W hs hk (by omega) rfl (λt h1=>pf (h:=w.h) (qs:=w.queues) (s:=w.step) W.locks hk (by omega) h1) (λt h2=>tK W.queues (ru W.hub _).2 hk (by omega) h2)
 ·by_cases p1:w.tasks[k].pc=1
  ·rw [dQ p1]
   obtain ⟨e1,e2,e3⟩:=g6 (by omega)
   have hdrop:∀ (h':Hub) (qs':List Queue) (s':Int) (t:Task),t.pc≠1->eo ⟨h',w.locks.set (aQ w.tasks[k].c.doc w.locks.length) (-1),qs',w.tasks.set k t,s'⟩:=
    λh' qs' s' t h1=>B2 (h:=w.h) (qs:=w.queues) (s:=w.step) W.locks hk p1 h1
   have hnl:(w.locks.set (aQ w.tasks[k].c.doc w.locks.length) (-1)).length=w.locks.length:=by simp
   by_cases q:¬ w.tasks[k].c.kind=2\/w.h.shut=true\/az w.h.docs w.tasks[k].c.doc<0
   ·rw [gd q]
    exact yE W hs hk (by omega) hnl (λt h1=>hdrop _ _ _ t h1) (λt h2=>tK W.queues (ru W.hub _).2 hk (by omega) h2)
   ·have hk2:w.tasks[k].c.kind=2:=Classical.byContradiction λh=>q (.inl h)
    have hdoc:0<=az w.h.docs w.tasks[k].c.doc:=by have:¬ az w.h.docs w.tasks[k].c.doc<0:=λh=>q (.inr (.inr h));omega
    have hwait:cD ⟨w.tasks[k].c,2,w.tasks[k].inv,w.tasks[k].lin,w.tasks[k].rs,w.tasks[k].a⟩:=⟨g1,g2,by simp,by simp,λ_=>hk2,λ_=>⟨e1,e2,e3⟩,by simp,by simp,by simp⟩;rcases ch w.queues w.tasks[k].c.doc with ⟨j,hj,e,hn⟩|e
    ·by_cases f:w.queues[j].list.length=2
     ·rw [ge q hj e f]
      refine ⟨lD W ⟨g1,g2,by simp,by simp,by simp,by simp,λ_=>.inl ⟨rfl,hk2,e1⟩,λ_=>e2,by simp⟩,W.hub,by simp only [bm];rw [hnl];exact W.nlock,hnt _,by simp only [bm];omega,?_,hdrop _ _ _ _ (by simp),?_⟩
      ·exact lP hk W.steps rfl (by simp only [bm];omega)
      ·exact tK W.queues (λ_ h=>h) hk (by omega) (by simp)
     ·rw [gc q hj e f]
      refine ⟨lD W hwait,W.hub,by simp only [bm];rw [hnl];exact W.nlock,hnt _,by simp only [bm];omega,?_,hdrop _ _ _ _ (by simp),?_⟩
      ·exact lP hk W.steps rfl (by simp only [bm];omega)
      ·have hq1:=W.queues.one _ (List.getElem_mem hj)
       refine HD W.queues hk (by omega) (by rfl) (λx hx=>?_) (xM (f:=Queue.doc) (R:=sLt) hj rfl W.queues.ord) ?_ (λx hx i hi=>?_)
       ·rcases List.mem_or_eq_of_mem_set hx with hx|rfl
        ·exact W.queues.one x hx
        ·have:=hq1.1
         exact ⟨by simp only [List.length_append,List.length_cons,List.length_nil];omega,hq1.2⟩
       ·simp only [bm]
        rw [mG hj,sY hj];exact J7 _ _ _ _
       ·rcases List.mem_or_eq_of_mem_set hx with hx|rfl
        ·exact .inr ⟨x,hx,rfl,hi⟩
        ·rcases List.mem_append.1 hi with hi|hi
         ·exact .inr ⟨_,List.getElem_mem hj,rfl,hi⟩
         ·simp at hi;exact .inl ⟨hi,hn⟩
    ·rw [gS q e]
     refine ⟨lD W hwait,W.hub,by simp only [bm];rw [hnl];exact W.nlock,hnt _,by simp only [bm];omega,?_,hdrop _ _ _ _ (by simp),?_⟩
     ·exact lP hk W.steps rfl (by simp only [bm];omega)
     ·refine HD W.queues hk (by omega) (by rfl) (λx hx=>?_) (Is W.queues.ord (zM e)) ?_ (λx hx i hi=>?_)
      ·rcases List.mem_append.1 hx with hx|hx
       ·exact W.queues.one x (List.mem_of_mem_take hx)
       ·rcases List.mem_cons.1 hx with rfl|hx
        ·exact ⟨by simp,mj.1 hdoc⟩
        ·exact W.queues.one x (List.mem_of_mem_drop hx)
      ·simp only [bm]
       have e2:bN w.queues=bN (w.queues.take (aL w.tasks[k].c.doc w.queues))++bN (w.queues.drop (aL w.tasks[k].c.doc w.queues)):=by
        unfold bN;rw [<- List.flatMap_append,List.take_append_drop]
       have e3:∀ (A B:List Queue) (q:Queue),bN (A++q::B)=bN A++(q.list++bN B):=λA B q=>by unfold bN;rw [List.flatMap_append,List.flatMap_cons]
       rw [e2,e3];exact List.perm_middle
      ·rcases List.mem_append.1 hx with hx|hx
       ·exact .inr ⟨x,List.mem_of_mem_take hx,rfl,hi⟩
       ·rcases List.mem_cons.1 hx with rfl|hx
        ·simp at hi;exact .inl ⟨hi,rfl⟩
        ·exact .inr ⟨x,List.mem_of_mem_drop hx,rfl,hi⟩
  ·by_cases p3:w.tasks[k].pc=3
   ·rw [eU p3]
    have hrs:=g8 p3;have hbl:=g7 (by omega)
    have hll:w.tasks[k].lin<=w.step:=by
     by_cases e:w.tasks[k].lin = -1
     ·omega
     ·have:=mJ W.steps (List.getElem_mem hk) (n:=w.tasks[k].lin) (by simp [bf]) e
      omega
    refine ⟨lD W ⟨g1,g2,by simp,by simp,by simp,by simp,λ_=>hbl,by simp,λ_=>⟨by simp only;omega,hll⟩⟩,W.hub,W.nlock,hnt _,by simp only;omega,?_,?_,?_⟩
    ·refine tp hk W.steps ?_
     have h2:¬ w.step = -1:=by omega
     have h3:∀ a b c:List Int,a++(b++c)=a++b++c:=λa b c=>by simp
     show cC [w.tasks[k].inv,w.tasks[k].lin,w.step]=cC [w.tasks[k].inv,w.tasks[k].lin,w.tasks[k].rs]++[w.step]
     rw [show [w.tasks[k].inv,w.tasks[k].lin,w.step]=[w.tasks[k].inv,w.tasks[k].lin]++[w.step] from rfl,show [w.tasks[k].inv,w.tasks[k].lin,w.tasks[k].rs]=[w.tasks[k].inv,w.tasks[k].lin]++[w.tasks[k].rs] from rfl,gY,gY,hrs];simp [cC,h2]
    ·exact pf (h:=w.h) (qs:=w.queues) (s:=w.step) W.locks hk (by omega) (by simp)
    ·exact tK W.queues (λ_ h=>h) hk (by omega) (by simp)
   ·rw [fR p0 p1 p3] at h;cases h
theorem iD {w:Wld} (W:WIn w) {i:Nat} (hi:i<w.queues.length) {k:Nat} (hk:k<w.tasks.length) {rest:List Int} (hl:w.queues[i].list=(k:Int)::rest):w.tasks[k].pc=2/\w.tasks[k].c.doc=w.queues[i].doc:=by
 obtain ⟨j,hj,e,h1,h2⟩:=W.queues.may _ (List.getElem_mem hi) (k:Int) (by rw [hl];simp);have:j=k:=by omega
 subst this;exact ⟨h1,h2⟩
theorem Fj {w:Wld} {name:ByteArray} (h:(cf w name).2=true):ap (cf w name).1:=by
 by_cases c:ap w/\¬ w.step=1000000/\0<=bE w.queues name
 rotate_left
 ·rw [lG c] at h;cases h
 obtain ⟨c,hs,h0⟩:=c;rcases ch w.queues name with ⟨i,hi,e,-⟩|e;rotate_left
 ·omega
 obtain ⟨k,hk,rest,hl,hr⟩:=eB c hi;rw [gb c hs hi e hk hl,cT];have W:=cT.1 c;obtain ⟨hp,-⟩:=iD W hi hk hl;refine yE W hs hk (by omega) rfl (λt h1=>pf (h:=w.h) (qs:=w.queues) (s:=w.step) W.locks hk (by omega) h1) (λt h2=>?_);have hwa:=sY hi;rw [hl] at hwa;have hq1:=W.queues.one _ (List.getElem_mem hi);unfold jC
 split
 ·rename_i hz
  subst hz;have e1:w.queues.eraseIdx i=w.queues.take i++w.queues.drop (i+1):=List.eraseIdx_eq_take_drop_succ ..;have hsub:∀ q,q∈w.queues.eraseIdx i->q∈w.queues:=λq hq=>List.mem_of_mem_eraseIdx hq
  refine Ds W.queues (ru W.hub _).2 hk h2 (λq hq=>W.queues.one q (hsub q hq)) (W.queues.ord.sublist (List.eraseIdx_sublist ..)) ?_ (λq hq j hj=>⟨q,hsub q hq,rfl,hj⟩);have e2:bN (w.queues.eraseIdx i)=bN (w.queues.take i)++bN (w.queues.drop (i+1)):=by rw [e1];unfold bN;rw [List.flatMap_append]
  rw [hwa,e2];exact List.perm_middle
 ·rename_i hz
  refine Ds W.queues (ru W.hub _).2 hk h2 (λq hq=>?_) (xM (f:=Queue.doc) (R:=sLt) hi rfl W.queues.ord) ?_ (λq hq j hj=>?_)
  ·rcases List.mem_or_eq_of_mem_set hq with hq|rfl
   ·exact W.queues.one q hq
   ·have:0<rest.length:=List.length_pos_iff.2 hz
    exact ⟨by simp only;omega,hq1.2⟩
  ·rw [hwa,mG hi]
   exact List.perm_middle
  ·rcases List.mem_or_eq_of_mem_set hq with hq|rfl
   ·exact ⟨q,hq,rfl,hj⟩
   ·exact ⟨_,List.getElem_mem hi,rfl,by rw [hl];exact List.mem_cons_of_mem _ hj⟩
theorem wM:∀ {l:List Task} {k:Nat} (h:k<l.length) (t:Task),ii (l.set k t)=ii l - eN l[k]+eN t
 |x::l,0,_,t=>by simp only [List.set_cons_zero,ii,List.getElem_cons_zero];omega
 | x :: l, k + 1, h, t => by
   have:=wM (l:=l) (k:=k) (by simpa using h) t;simp only [List.set_cons_succ,ii,List.getElem_cons_succ,this];omega
theorem pg {t:Task} {a:Answer} {s:Int} (h:t.pc<=2) (h0:0<=t.pc) (h1:t.pc=1->aJ t.c.kind):eN ⟨t.c,3,t.inv,s,t.rs,a⟩<eN t:=by
 have e:eN ⟨t.c,3,t.inv,s,t.rs,a⟩=1:=by unfold eN;simp
 rw [e];unfold eN
 split
 ·split
  ·omega
  ·split<;>omega
 ·split
  ·rename_i p1
   split
   ·omega
   ·rw [if_pos (h1 p1)];omega
  ·rw [if_pos (by omega)];omega
theorem t8 {t:Task} (h:t.pc=1) (h2:t.c.kind=2):eN ⟨t.c,2,t.inv,t.lin,t.rs,t.a⟩<eN t:=by unfold eN;simp [h,h2]
theorem B9 {t:Task} (h:t.pc=0) (h2:aJ t.c.kind):eN ⟨t.c,1,t.inv,t.lin,t.rs,t.a⟩<eN t:=by
 unfold eN;simp only [h];by_cases k:t.c.kind=2
 ·simp [k]
 ·simp [k,h2]
theorem Ca {t:Task} {a:Answer} (h:t.pc=1) (h2:t.c.kind=2):eN ⟨t.c,3,t.inv,t.lin,t.rs,a⟩<eN t:=by unfold eN;simp [h,h2]
theorem B8 {t:Task} {s:Int} (h:t.pc=3):eN ⟨t.c,4,t.inv,t.lin,s,t.a⟩<eN t:=by unfold eN;simp [h]
def wD (w w':Wld) (k:Nat):Prop:=∃ h:k<w.tasks.length,∃ t,w'.tasks=w.tasks.set k t/\t.c=w.tasks[k].c/\t.inv=w.tasks[k].inv/\eN t<eN w.tasks[k]
theorem BR {w w':Wld} {k:Nat} (h:wD w w' k):ii w'.tasks<ii w.tasks:=by
 obtain ⟨hk,t,e,-,-,hl⟩:=h;rw [e,wM hk];omega
theorem IQ {w:Wld} {k:Nat} (h:(cr w k).2=true):wD w (cr w k).1 k:=by
 by_cases c:ap w/\¬ w.step=1000000/\(0<=(k:Int)/\(k:Int)<=(w.tasks.length:Int) - 1)
 rotate_left
 ·rw [io c] at h;cases h
 obtain ⟨c,hs,h1,h2⟩:=c;have hk:k<w.tasks.length:=by omega
 rw [ji c hs hk] at h ⊢;have W:=cT.1 c;obtain ⟨g1,g2,g3,g4,g5,g6,g7,g8,g9⟩:=W.tasks _ (List.getElem_mem hk);refine ⟨hk,?_⟩;by_cases p0:w.tasks[k].pc=0
 ·by_cases d:aJ w.tasks[k].c.kind
  ·by_cases f:w.locks[aQ w.tasks[k].c.doc w.locks.length]? = some (-1)
   ·rw [eV p0 d f];exact ⟨_,rfl,rfl,rfl,B9 p0 d⟩
   ·rw [fQ p0 d f] at h;cases h
  ·rw [eW p0 d];exact ⟨_,rfl,rfl,rfl,pg (by omega) (by omega) g4⟩
 ·by_cases p1:w.tasks[k].pc=1
  ·rw [dQ p1]
   by_cases q:¬ w.tasks[k].c.kind=2\/w.h.shut=true\/az w.h.docs w.tasks[k].c.doc<0
   ·rw [gd q];exact ⟨_,rfl,rfl,rfl,pg (by omega) (by omega) g4⟩
   ·have hk2:w.tasks[k].c.kind=2:=Classical.byContradiction λh=>q (.inl h)
    rcases ch w.queues w.tasks[k].c.doc with ⟨j,hj,e,hn⟩|e
    ·by_cases f:w.queues[j].list.length=2
     ·rw [ge q hj e f];exact ⟨_,rfl,rfl,rfl,Ca p1 hk2⟩
     ·rw [gc q hj e f];exact ⟨_,rfl,rfl,rfl,t8 p1 hk2⟩
    ·rw [gS q e];exact ⟨_,rfl,rfl,rfl,t8 p1 hk2⟩
  ·by_cases p3:w.tasks[k].pc=3
   ·rw [eU p3];exact ⟨_,rfl,rfl,rfl,B8 p3⟩
   ·rw [fR p0 p1 p3] at h;cases h
theorem Fh {w:Wld} {name:ByteArray} (h:(cf w name).2=true):∃ k,wD w (cf w name).1 k:=by
 by_cases c:ap w/\¬ w.step=1000000/\0<=bE w.queues name
 rotate_left
 ·rw [lG c] at h;cases h
 obtain ⟨c,hs,h0⟩:=c;rcases ch w.queues name with ⟨i,hi,e,-⟩|e;rotate_left
 ·omega
 obtain ⟨k,hk,rest,hl,hr⟩:=eB c hi;rw [gb c hs hi e hk hl];have W:=cT.1 c;obtain ⟨hp,-⟩:=iD W hi hk hl;obtain ⟨g1,g2,g3,g4,-⟩:=W.tasks _ (List.getElem_mem hk);exact ⟨k,hk,_,rfl,rfl,rfl,pg (by omega) (by omega) g4⟩
theorem EI {w w':Wld} (c:ap w) {k:Nat} (h:wD w w' k):dg w'<dg w:=by
 have h1:=BR h;have h2:=nT w'.tasks;unfold dg;rw [if_pos c]
 split
 ·exact h1
 ·omega
theorem G8 {w:Wld} (c:ap w) (s:¬ w.step=1000000):fF w=0 ↔ ∀ t∈w.tasks,t.pc=4:=by
 have W:=cT.1 c
 constructor
 ·intro hm t ht
  unfold fF at hm;have ha:cH w=[]:=List.length_eq_zero_iff.1 (by omega);have hq:bU w=[]:=List.length_eq_zero_iff.1 (by omega);obtain ⟨k,hk,rfl⟩:=List.getElem_of_mem ht
  have notable:∀ k,∀ hk:k<w.tasks.length,¬ eP w w.tasks[k]:=by
   intro k hk hb;rw [oa ⟨c,s⟩] at ha
   have hm:(k:Int)∈dW w w.tasks.length:=by
    unfold dW;rw [List.mem_map];refine ⟨k,?_,rfl⟩;rw [List.mem_filter];exact ⟨List.mem_range.2 hk,by simpa using ⟨hk,hb⟩⟩
   rw [ha] at hm
   cases hm
  have noqueue:w.queues=[]:=by
   rw [jh ⟨c,s⟩] at hq;exact List.map_eq_nil_iff.1 hq
  have hp:=(W.tasks _ ht).2.2.1
  have h2:w.tasks[k].pc≠2:=λe=>by
   have:=W.queues.all k hk e;rw [noqueue] at this
   cases this
  have hb:=notable k hk;unfold eP at hb;by_cases e4:w.tasks[k].pc=4
  ·exact e4
  exfalso
  refine hb ⟨λ⟨e0,d⟩=>?_,h2,e4⟩;have hs:aQ w.tasks[k].c.doc w.locks.length<w.locks.length:=Nat.mod_lt _ (by have:=W.nlock;omega);rw [List.getElem?_eq_getElem hs];rcases W.locks.1 _ hs with h3|⟨j,hj,h3,h4,h5⟩
  ·rw [h3]
  ·exfalso
   refine notable j hj ⟨λ⟨e,_⟩=>by omega,by omega,by omega⟩
 ·intro h
  unfold fF
  have ha:cH w=[]:=by
   rw [oa ⟨c,s⟩];unfold dW;rw [List.map_eq_nil_iff,List.filter_eq_nil_iff];intro k hk hb;obtain ⟨hk,hb⟩:∃ h:k<w.tasks.length,eP w w.tasks[k]:=by simpa using hb
   exact hb.2.2 (h _ (List.getElem_mem hk))
  have hq:bU w=[]:=by
   rw [jh ⟨c,s⟩,List.map_eq_nil_iff]
   cases e:w.queues with
   |nil=>rfl
   | cons q l =>
     exfalso
     have hi:0<w.queues.length:=by rw [e];simp
     obtain ⟨k,hk,rest,hl,-⟩:=eB c hi;have:=(iD W hi hk hl).1;have:=h _ (List.getElem_mem hk);omega
  rw [ha,hq];rfl
set_option maxHeartbeats 3200000
theorem iV {h:Hub} {n:Int} (c:ao h/\(1<=n/\n<=4)):fj h n=(⟨h,List.replicate n.toNat (-1),[],[],0⟩,true):=by unfold fj;rw [if_pos c]
theorem jL {h:Hub} {n:Int} (c:¬ (ao h/\(1<=n/\n<=4))):fj h n=(Wld.zero,false):=by unfold fj;rw [if_neg c]
theorem Hw (i:Nat):List.replicate i (ak (-1))++[[.v (.int .i64 (-1))]]=List.replicate (i+1) (ak (-1)):=by
 rw [List.replicate_succ']
theorem tu (h:Hub) (hl:bX h<=2 ^ 30) (n:Int):ai Tryz.prog 124 [.agg h.row,.c (vi n)] (.tup [.agg (fj h n).1.res,.c (.v (.bool (fj h n).2)) 1]):=by
 refine pci ae Tryz.func124 (λw0 base=>?_);simp [Hub.row];intro b1 b2;refine aa.pure (dt h hl) (by simp [Hub.row]) ?_;by_cases c1:ao h
 rotate_left
 ·have e:=jL (h:=h) (n:=n) (λh=>c1 h.1)
  simp [ab c1,e,Wld.res,Wld.zero,Hub.zero]
 simp [c1];refine aa.pure (ba n 1 4) (by simp) ?_;by_cases c2:1<=n/\n<=4
 rotate_left
 ·have e:=jL (h:=h) (n:=n) (λh=>c2 h.2)
  simp [ab c2,e,Wld.res,Wld.zero,Hub.zero]
 have e:=iV (h:=h) (n:=n) ⟨c1,c2⟩;obtain ⟨m,rfl⟩:∃ m:Nat,n=m:=⟨n.toNat,by omega⟩;simp at e;simp [c2];refine aa.pure (bY h hl) (by simp [Hub.row]) ?_;simp [Hub.res];intro H1 H2 b6
 refine ag eok (λx:Nat×Hd=>x.1<=m) (λx=>⟨30,0,[(1,.v (.int .i64 m)),(4,.p 64 b2 0),(6,.p 96 b6 0)],
  [(96, .vars b6 39 [.v (.bool h.shut), .sl 273 H1 5 0 h.docs.length, .sl 274 H2 6 0 h.subs.length, .v (.int .i64 h.last), .sl 5000 x.2 1 0 x.1, .nil, .nil, .v (.int .i64 0)]),
   (64,.vars b2 39 [.v (.bool false),.nil,.nil,.v (.int .i64 0),.nil,.nil,.nil,.v (.int .i64 0)]),
   (273,.rows H1 5 (h.docs.map Doc.row) true),(274,.rows H2 6 (h.subs.map Sub.row) true),(5000,.rows x.2 1 ((List.replicate x.1 (-1:Int)).map ak) true)]⟩) (λx=>m - x.1) (0,none) (by simp) (by simp) (λx hi=>Ent.refl ?_)
 obtain ⟨i,H⟩:=x;simp only at hi ⊢;by_cases hlt:i<m
 ·simp [hlt]
  intro b7;refine ⟨by omega,λH'=>Ent.refl ⟨i+1,by omega,by omega,H',?_⟩⟩;simp;exact Hw i
 have hm:i=m:=by omega
 subst hm;simp [e,Wld.res]
inductive stepTo (w:Wld):Wld->Prop
 |come {c:Call} (h:(eG w c).2=true):stepTo w (eG w c).1
 |pick {k:Int} (h:(cr w k).2=true):stepTo w (cr w k).1
 |serve {name:ByteArray} (h:(cf w name).2=true):stepTo w (cf w name).1
inductive Reach (h:Hub):Nat->Wld->Prop
 |new {n:Int} (hn:(fj h n).2=true):Reach h 0 (fj h n).1
 |same {i:Nat} {w:Wld} (r:Reach h i w):Reach h (i+1) w
 |step {i:Nat} {w w':Wld} (r:Reach h i w) (s:stepTo w w'):Reach h (i+1) w'
theorem j5 {h:Hub} {w:Wld} {i:Nat}:∀ {j:Nat},Reach h i w->i<=j->Reach h j w
 | 0, r, hj => by
   have:i=0:=by omega
   subst this;exact r
 | j + 1, r, hj => by
   by_cases e:i=j+1
   ·subst e;exact r
   ·exact .same (j5 r (by omega))
theorem zA {w:Wld} {name:ByteArray} (h:(cf w name).2=true):ap w/\¬ w.step=1000000/\∃ i:Nat,i<w.queues.length/\bE w.queues name=i:=by
 by_cases c:ap w/\¬ w.step=1000000/\0<=bE w.queues name
 ·refine ⟨c.1,c.2.1,?_⟩
  rcases ch w.queues name with ⟨j,hj,e,-⟩|e
  ·exact ⟨j,hj,e⟩
  ·omega
 ·rw [lG c] at h;cases h
theorem CC {w:Wld} {i:Nat} (h:lF w i) {name:ByteArray} (hy:(cf w name).2=true):lF (cf w name).1 (i+1)/\(cf w name).1.step=w.step+1:=by
 obtain ⟨c,s,j,hj,e⟩:=zA hy;obtain ⟨k,hk,rest,hl,hr⟩:=eB c hj;have h2:=wd w.queues j w.queues[j] rest;have h3:=tH c hj;rw [gb c s hj e hk hl];exact ⟨n8 c h hk rfl (by omega) _,rfl⟩
theorem Ff {w:Wld} {i:Nat} (h:lF w i) {c:Call} (hy:(eG w c).2=true):lF (eG w c).1 (i+1)/\(eG w c).1.step=w.step+1:=by
 have ok:=AT hy;unfold eG at hy ok ⊢
 split at hy
 ·rename_i hc
  rw [if_pos hc] at ok ⊢;obtain ⟨h1,h2,h3,h4,h5⟩:=h
  have hm:∀ t∈w.tasks++[dk c w.step],eF t<=2 ^ 25:=by
   intro t ht;rcases List.mem_append.1 ht with ht|ht
   ·exact h4 t ht
   ·simp at ht
    subst ht;have:=ir hc.1.2;have e:eF (dk c w.step)=dv c:=rfl;omega
  refine ⟨⟨h1,h2,by show nL dG w.queues<=_;omega,hm,?_⟩,rfl⟩;have h6:nL eF (w.tasks++[dk c w.step])<=(w.tasks++[dk c w.step]).length*(2 ^ 25+1):=oI hm;have h7:=Nat.mul_le_mul_right (2 ^ 25+1) ok.2.2.2.1
  show nL eF (w.tasks++[dk c w.step])<=_
  simp only at h7;omega
 ·cases hy
theorem JT {w w':Wld} {i:Nat} (h:lF w i) (s:stepTo w w'):ap w'/\lF w' (i+1)/\w'.step=w.step+1:=by
 cases s with
 |come hy=>exact ⟨AT hy,Ff h hy⟩
 |pick hy=>exact ⟨IR hy,w8 h hy,ux hy⟩
 |serve hy=>exact ⟨Fj hy,CC h hy⟩
theorem K0 {w:Wld} {i:Nat} (h:lF w i):lF w (i+1):=⟨h.1,h.2.1,by have:=h.2.2.1;omega,h.2.2.2⟩
theorem jZ {h:Hub} (hh:ao h) {i:Nat} {w:Wld} (r:Reach h i w):ap w/\(0<=w.step/\w.step<=i)/\lF w i:=by
 induction r with
 | @new n hn =>
   have c:ao h/\(1<=n/\n<=4):=by
    by_cases c:ao h/\(1<=n/\n<=4)
    ·exact c
    ·have e:=jL c
     rw [e] at hn;exact absurd hn (by simp)
   rw [iV c];have hl:(List.replicate n.toNat (-1:Int)).length=n.toNat:=List.length_replicate;refine ⟨⟨by simp,hh,?_,by simp,by simp,?_,⟨λs hs=>.inl (by simp),λk hk=>absurd hk (Nat.not_lt_zero _)⟩,⟨[],rfl,λk hk=>absurd hk (Nat.not_lt_zero _)⟩⟩,by simp,?_⟩
   ·show 1<=(List.replicate n.toNat (-1:Int)).length/\(List.replicate n.toNat (-1:Int)).length<=4
    omega
   ·unfold fY;simp [aU]
   ·have:=(dm hh).1
    refine ⟨by show bX h<=_;omega,?_,by simp [nL,bV],by simp,by simp [nL,bV]⟩
    show (List.replicate n.toNat (-1:Int)).length<=_
    omega
 |same r ih=>exact ⟨ih.1,by omega,K0 ih.2.2⟩
 | step r s ih =>
   have:=JT ih.2.2 s;exact ⟨this.1,by omega,this.2.1⟩
def kf:List Task->Int
 | []=>0
 |t::l=>(if t.a.code=11 then 1 else 0)+kf l
def AU (w:Wld):Int:=kf w.tasks
theorem rD:∀ {l:List Task} {i:Nat} (h:i<l.length),kf (l.take (i+1))=kf (l.take i)+(if l[i].a.code=11 then 1 else 0)
 |t::l,0,_=>by simp [kf]
 | t :: l, i + 1, h => by
   have:=rD (l:=l) (i:=i) (by simpa using h);simp only [List.take_succ_cons,kf,List.getElem_cons_succ,this];omega
theorem yR:∀ l:List Task,0<=kf l/\kf l<=l.length
 | []=>by simp [kf]
 | t :: l => by
   have:=yR l;simp only [kf,List.length_cons]
   split<;>omega
theorem Cr (w:Wld) (hl:du w<=2 ^ 36):ai Tryz.prog 37 [.agg w.row] (.one (.c (vi (AU w)) 1)):=by
 refine pci ae Tryz.func37 (λw0 base=>?_);obtain ⟨h,lk,qs,l,st⟩:=w;unfold du at hl;simp only at hl;have hle:=aB (f:=eF) (B:=2 ^ 40) (l:=l) (by omega);simp [Wld.row];intro b1;refine aq.intro eok (λi:Nat=>i<=l.length) (λi=>⟨21,0,[(9,.v (.int .i64 i)),(8,.v (.int .i64 l.length)),(7,.ro (l.map Task.row)),(3,.v (.int .i64 (kf (l.take i))))],[]⟩) (λi=>l.length - i) 0 (by simp) (by simp [kf]) (λi hi=>?_);by_cases hlt:i<l.length
 ·have hs:=rD hlt
  have hb:=yR (l.take i);simp at hb;generalize kf (l.take i)=n at hs hb ⊢;have ew:Go.IntKind.i64.wrap (n+1)=n+1:=Go.IntWalk.i64_in _ (by omega);simp [hlt,Task.row];intro b5;by_cases c:l[i].a.code=11
  ·rw [if_pos c] at hs
   simp [c,ew];exact ⟨i+1,by omega,by omega,ah (by omega),hs.symm⟩
  ·rw [if_neg c] at hs
   simp [c];exact ⟨i+1,by omega,by omega,ah (by omega),by omega⟩
 ·rw [List.take_of_length_le (by omega)]
  simp [hlt,AU]
theorem zJ (d:Doc) (base:Int) (o:List Part):(cG d base o).2≠11:=by
 unfold cG
 repeat' split
 all_goals simp
theorem CF (d:Doc) (n:Int):(fS d n).2≠11:=by
 unfold fS
 repeat' split
 all_goals simp
theorem zr (d:Doc) (client seq base:Int) (o:List Part):(bD d client seq base o).2.2≠11:=by
 unfold bD;have:=zJ d base o
 repeat' split
 all_goals first|exact this|simp
theorem K9 (h:Hub) (c:Call):(fDo h c).2.code≠11:=by
 have k1:(aY h c.doc c.text).2≠11:=by
  unfold aY
  repeat' split
  all_goals simp
 have k2:(aF h c.doc c.client c.seq c.n c.o).2.2≠11:=by
  unfold aF
  repeat' split
  all_goals first|exact zr _ _ _ _ _|simp
 have k3:(jx h c).code≠11:=by
  unfold jx bK
  repeat' split
  all_goals first|exact CF _ _|simp
 have k5:(au h c.doc c.n).2.2≠11:=by
  unfold au
  repeat' split
  all_goals simp
 have k6:(bo h c.client c.n).2.2≠11:=by
  unfold bo bj
  repeat' split
  all_goals simp
  all_goals (repeat' split)<;>simp
 have k7:(aI h c.client).2.2.2≠11:=by
  unfold aI
  repeat' split
  all_goals simp
 have k8:(bS h).2≠11:=by
  unfold bS
  repeat' split
  all_goals simp
 unfold fDo bK
 repeat' split
 all_goals first|exact k1|exact k2|exact k3|exact k5|exact k6|exact k7|exact k8|simp
theorem uJ:∀ (l:List Call) (h:Hub),∀ a∈(cw h l).2,a.code≠11
 | [],_,a,ha=>by cases ha
 | c :: l, h, a, ha => by
   rcases List.mem_cons.1 ha with rfl|ha
   ·exact K9 h c
   ·exact uJ l _ a ha
end Go.Proofs.YtoldjebobgocpaaGreat
