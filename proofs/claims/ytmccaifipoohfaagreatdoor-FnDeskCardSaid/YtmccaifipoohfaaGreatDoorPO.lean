import Derived.Test.YtmccaifipoohfaaGreatDoorPM
import Derived.Test.YtmccaifipoohfaaGreatDoorPL
import Derived.Test.YtmccaifipoohfaaGreatDoorPN
import Derived.Test.YtmccaifipoohfaaGreatDoorPG
import Derived.Test.YtmccaifipoohfaaGreatDoorMF
import Derived.Test.YtmccaifipoohfaaGreatDoorMG
import Derived.Test.YtmccaifipoohfaaGreatDoorPA
import Derived.Test.YtmccaifipoohfaaGreatDoorPC
import Derived.Test.YtmccaifipoohfaaGreatDoorPE
import Derived.Test.YtmccaifipoohfaaGreatDoorPD
import Derived.Test.YtmccaifipoohfaaGreatDoorPF
namespace Go.Proofs.YtmccaifipoohfaaGreatDoor
open Go.AM
set_option maxRecDepth 20000
theorem aaq{a b:UInt8}:a<b↔a.toNat<b.toNat:=UInt8.lt_iff_toNat_lt
theorem Kw:∀x:List UInt8,Go.Op.bytesLess x x=false
 | []=>rfl
 | a :: x => by
   have h:¬a<a:=by rw[aaq];omega
   rw[Go.Op.bytesLess,Kw x];simp[h]
theorem PT:∀x y z:List UInt8,Go.Op.bytesLess x y=true->Go.Op.bytesLess y z=true->Go.Op.bytesLess x z=true
 | [],[],_,h,_=>by simp[Go.Op.bytesLess]at h
 |_::_,[],_,h,_=>by simp[Go.Op.bytesLess]at h
 |_,_::_,[],_,h=>by simp[Go.Op.bytesLess]at h
 | [],_::_,_::_,_,_=>rfl
 | a :: x, b :: y, c :: z, h1, h2 => by
   rw[Go.Op.bytesLess]at h1 h2⊢;simp only[iK,aM,da,kt]at h1 h2⊢;rcases h1 with h1|⟨rfl,h1⟩
   ·rcases h2 with h2|⟨rfl,h2⟩
    ·rw[aaq]at h1 h2⊢;exact .inl aa
    ·exact .inl h1
   ·rcases h2 with h2|⟨rfl,h2⟩
    ·exact .inl h2
    ·exact .inr ⟨rfl,PT x y z h1 h2⟩
theorem acN:∀x y:List UInt8,Go.Op.bytesLess x y=true\/x=y\/Go.Op.bytesLess y x=true
 | [],[]=>.inr (.inl rfl)
 | [],_::_=>.inl rfl
 |_::_,[]=>.inr (.inr rfl)
 | a :: x, b :: y => by
   rw[Go.Op.bytesLess,Go.Op.bytesLess];simp only[iK,aM,da,kt,DS];by_cases h1:a<b
   ·exact .inl (.inl h1)
   ·by_cases h2:a=b
    ·rcases acN x y with h|h|h
     ·exact .inl (.inr ⟨h2,h⟩)
     ·exact .inr (.inl ⟨h2,h⟩)
     ·exact .inr (.inr (.inr ⟨h2.symm,h⟩))
    ·have h3:b<a:=by
      rw[aaq]at h1⊢;have:a.toNat≠b.toNat:=λh=>h2 (iH.1 h)
      omega
     exact .inr (.inr (.inl h3))
theorem ZG{a b:ByteArray}(h:a.toList=b.toList):a=b:=by
 rw[Qj,Qj]at h;obtain⟨⟨a⟩⟩:=a;obtain⟨⟨b⟩⟩:=b;simp only at h;rw[h]
theorem QE(a:ByteArray):¬sLt a a:=by unfold sLt;rw[Kw];simp
theorem JC{a b c:ByteArray}(h1:sLt a b)(h2:sLt b c):sLt a c:=PT _ _ _ h1 h2
theorem adF{a b:ByteArray}(h1:¬sLt a b)(h2:a≠b):sLt b a:=by
 rcases acN a.toList b.toList with h|h|h
 ·exact absurd h h1
 ·exact absurd (ZG h) h2
 ·exact h
def Be(a b:Doc):Prop:=sLt a.name b.name
def ahL(l:List Doc):Prop:=(∀d∈l,bS d)/\l.Pairwise Be
def amf(docs:List Doc)(last:Int)(s:Sub):Prop:=(1<=s.id/\s.id<=last)/\dy s.r/\∃d∈docs,d.name=s.doc/\(s.r.out=false->s.r.next+s.r.list.length=ar d+1)
def Xg(a b:Sub):Prop:=a.id<b.id
theorem Ce{l:List Doc}(hp:l.Pairwise Be){k:Nat}(hk:k<l.length):dm l l[k].name=k:=
 Ff hk rfl (λj hj hjl e=>by
  have h1:Be l[j] l[k]:=yV.1 hp j k hjl hk hj;unfold Be at h1;rw[show l[j].name=l[k].name from e]at h1;exact QE _ h1)
theorem XQ{l:List Doc}(hp:l.Pairwise Be){a b:Doc}(ha:a∈l)(hb:b∈l)(h:a.name=b.name):a=b:=by
 obtain⟨i,hi,rfl⟩:=bC ha;obtain⟨j,hj,rfl⟩:=bC hb;have e1:=Ce hp hi;have e2:=Ce hp hj;rw[h,e2]at e1;have:i=j:=aa;subst this;rfl
theorem RI{l:List Doc}{name:ByteArray}:0<=dm l name↔∃d∈l,d.name=name:=by
 constructor
 ·intro h
  rcases ee l name with⟨k,hk,-,hn⟩|e
  ·exact⟨_,ak hk,hn⟩
  ·omega
 ·rintro⟨d,hd,hn⟩
  rcases rq (λd:Doc=>d.name=name) l with⟨k,hk,e,-⟩|⟨-,h⟩
  ·unfold dm;omega
  ·obtain⟨i,hi,rfl⟩:=bC hd
   exact absurd hn (h i hi)
theorem oR{h:Hub}:bq h↔h.docs.length<=5/\h.subs.length<=6/\(0<=h.last/\h.last<=1000000000)/\ahL h.docs/\(∀s∈h.subs,amf h.docs h.last s)/\h.subs.Pairwise Xg:=by
 constructor
 ·rintro⟨h1,h2,h3,h4,h5⟩
  refine⟨h1,h2,h3,⟨λd hd=>?_,xI (R:=Be) (λ_ _ _=>JC) λi hi h0=>(h4 i hi).2 h0⟩,λs hs=>?_,xI (R:=Xg) (λ_ _ _=>Int.lt_trans) λi hi h0=>(h5 i hi).2.2.1 h0⟩
  ·obtain⟨i,hi,rfl⟩:=bC hd
   exact(h4 i hi).1
  ·obtain⟨i,hi,rfl⟩:=bC hs
   obtain⟨g1,g2,-,k,hk,e,g3⟩:=h5 i hi;refine⟨g1,g2,h.docs[k],ak hk,?_,g3⟩;rcases ee h.docs h.subs[i].doc with⟨j,hj,e',hn⟩|e'
   ·have:j=k:=by omega
    subst this;exact hn
   ·omega
 ·rintro⟨h1,h2,h3,⟨h4,h5⟩,h6,h7⟩
  refine⟨h1,h2,h3,λi hi=>⟨h4 _ (ak hi),λh0=>Cn h5 i hi h0⟩,λi hi=>?_⟩;obtain⟨g1,g2,d,hd,hn,g3⟩:=h6 _ (ak hi);obtain⟨k,hk,rfl⟩:=bC hd;refine⟨g1,g2,λh0=>Cn h7 i hi h0,k,hk,?_,g3⟩;rw[<-hn];exact Ce h5 hk
theorem rA{d x:Doc}:∀{l:List Doc},x∈mF d l↔x=d\/x∈l
 | []=>by simp[mF]
 | y :: l => by
   unfold mF
   split
   ·rw[aQ,rA (l:=l),aQ]
    constructor
    ·exact Tc
    ·exact Tc
   ·rw[aQ]
theorem Ko{d:Doc}:∀{l:List Doc},l.Pairwise Be->(∀x∈l,x.name≠d.name)->(mF d l).Pairwise Be
 | [],_,_=>by simp[mF]
 | y :: l, h, hn => by
   obtain⟨h1,h2⟩:=fu.1 h;unfold mF
   split
   ·rename_i hc
    refine fu.2 ⟨λx hx=>?_,Ko h2 (λx hx=>hn x (aD _ hx))⟩;rcases rA.1 hx with rfl|hx
    ·exact hc
    ·exact h1 x hx
   ·rename_i hc
    have h3:Be d y:=adF hc (hn y (aN ..));refine fu.2 ⟨λx hx=>?_,h⟩;rcases aQ.1 hx with rfl|hx
    ·exact h3
    ·exact JC h3 (h1 x hx)
theorem Hk(d:Doc):∀l:List Doc,(mF d l).length=l.length+1
 | []=>rfl
 | y :: l => by
   unfold mF
   split
   ·simp[Hk d l]
   ·rfl
def qE(a b:List Doc):Prop:=∀name,(∃d∈a,d.name=name)->∃d∈b,d.name=name
theorem ad3{h:Hub}(c:bq h){name:ByteArray}{t:List Int}(hd:bS (gF name t))(hi:¬0<=dm h.docs name)(hl:¬h.docs.length=5):bq ⟨h.shut,mF (gF name t) h.docs,h.subs,h.last⟩:=by
 rw[oR]at c⊢;obtain⟨h1,h2,h3,⟨h4,h5⟩,h6,h7⟩:=c;have hn:∀x∈h.docs,x.name≠(gF name t).name:=λx hx e=>hi (RI.2 ⟨x,hx,e⟩)
 refine⟨by rw[Hk];omega,h2,h3,⟨λd hx=>?_,Ko h5 hn⟩,λs hs=>?_,h7⟩
 ·rcases rA.1 hx with rfl|hx
  ·exact hd
  ·exact h4 d hx
 ·obtain⟨g1,g2,d,hx,g3⟩:=h6 s hs
  exact⟨g1,g2,d,rA.2 (.inr hx),g3⟩
theorem Oo{r:Ring}(h:dy r){e:Entry}(he:dq e):dy (fj r e)/\((fj r e).out=false->r.out=false/\(fj r e).next=r.next/\(fj r e).list.length=r.list.length+1):=by
 by_cases c:r.out=false
 ·obtain⟨g1,g2,g3,g4,g5⟩:=h
  by_cases f:(r.list.length:Int)=r.cap
  ·rw[rn ⟨⟨g1,g2,g3,g4,g5⟩,he,c⟩ f]
   exact⟨⟨ab,g2,g3,by simp only[eN];omega,ab⟩,ab⟩
  ·rw[rm ⟨⟨g1,g2,g3,g4,g5⟩,he,c⟩ f]
   refine⟨⟨λx hx=>?_,g2,g3,Sp,by rw[c];simp⟩,λ_=>⟨c,rfl,ab⟩⟩;rcases aG.1 hx with hx|hx
   ·exact g1 x hx
   ·simp at hx;subst hx;exact he
 ·rw[uY (λh=>c h.2.2)]
  exact⟨h,λh=>absurd h c⟩
theorem abc{α β:Type}{R:β->β->Prop}{f:α->β}{l:List α}{k:Nat}{x:α}(hk:k<l.length)(hf:f x=f l[k])(h:l.Pairwise λa b=>R (f a) (f b)):(l.set k x).Pairwise λa b=>R (f a) (f b):=by
 have h1:(l.map f).Pairwise R:=Qm.2 h
 have e:(l.set k x).map f=l.map f:=by
  rw[Dx,hf];refine mc ab (λj h1 h2=>?_);rw[tc]
  split
  ·rename_i e;subst e;simp
  ·rfl
 rw[<-e]at h1;exact Qm.1 h1
theorem QX{α:Type}{l:List α}{k:Nat}{x y:α}(hk:k<l.length)(hy:y∈l)(hne:y≠l[k]):y∈l.set k x:=by
 obtain⟨j,hj,rfl⟩:=bC hy;have hjk:k≠j:=λe=>by subst e;exact hne rfl
 have:(l.set k x)[j]' mf=l[j]:=by rw[pz hjk]
 rw[<-this];exact ak _
theorem GC{α:Type}{l:List α}{k:Nat}{x:α}(hk:k<l.length):x∈l.set k x:=List.mem_set hk x
theorem ZA{h:Hub}(c:bq h){name:ByteArray}{k:Nat}(hk:k<h.docs.length)(hn:h.docs[k].name=name){D:Doc}(hD:bS D)(hDn:D.name=h.docs[k].name)
 (hor:D=h.docs[k]\/∃e,dq e/\ar D=ar h.docs[k]+1/\D.list.getLast? = some e):bq (fT h name k h.docs[k] D)/\qE h.docs (fT h name k h.docs[k] D).docs:=by
 rcases hor with rfl|⟨e,he,hr,hg⟩
 ·have e1:fT h name k h.docs[k] h.docs[k]=h:=by
   unfold fT;rw[aj aa,Fs]
  rw[e1];exact⟨c,λ_ h=>h⟩
 ·have e1:fT h name k h.docs[k] D=⟨h.shut,h.docs.set k D,h.subs.map (ia name e),h.last⟩:=by
   unfold fT;rw[ai aa,hg]
  rw[e1];rw[oR]at c⊢;obtain⟨h1,h2,h3,⟨h4,h5⟩,h6,h7⟩:=c;have hkeep:∀d∈h.docs,d.name≠name->d∈h.docs.set k D:=λd hd hne=>QX hk hd (λe=>hne (by rw[e,hn]))
  refine⟨⟨by simpa using h1,nT,h3,⟨λd hd=>?_,abc (f:=Doc.name) (R:=sLt) hk hDn h5⟩,λs hs=>?_,?_⟩,?_⟩
  ·rcases dB hd with hd|rfl
   ·exact h4 d hd
   ·exact hD
  ·rw[cH]at hs
   obtain⟨s,hs,rfl⟩:=hs;obtain⟨g1,g2,d,hd,hdn,g3⟩:=h6 s hs;unfold ia
   split
   ·rename_i hc
    have hu:d=h.docs[k]:=XQ h5 hd (ak hk) (by rw[hdn,hc,hn]);subst hu;obtain⟨p1,p2⟩:=Oo g2 he;refine⟨g1,p1,D,GC hk,by rw[hDn,hdn],λho=>?_⟩;obtain⟨q1,q2,q3⟩:=p2 ho;have:=g3 q1;simp only at q2 q3⊢;omega
   ·rename_i hc
    exact⟨g1,g2,d,hkeep d hd (λe=>hc (by rw[<-hdn,e])),hdn,g3⟩
  ·rw[Qm]
   refine h7.imp ?_;intro a b hab;have ea:∀s:Sub,(ia name e s).id=s.id:=λs=>by unfold ia;split<;>rfl
   unfold Xg;rw[ea,ea];exact hab
  ·rintro nm ⟨d,hd,hdn⟩
   by_cases hc:d.name=name
   ·exact⟨D,GC hk,by rw[hDn,hn,<-hc,hdn]⟩
   ·exact⟨d,hkeep d hd hc,hdn⟩
theorem Ml{h:Hub}(c:bq h){room:Int}(hr:1<=room/\room<=6){k:Nat}(hk:k<h.docs.length)(hl:¬(h.subs.length=6\/h.last=1000000000)) :
 bq ⟨h.shut,h.docs,h.subs++[⟨h.last+1,h.docs[k].name,(im room (ar h.docs[k])).1⟩],h.last+1⟩:=by
 have hh:=bM (gO c hk);have hring:dy (eF room (ar h.docs[k])):=⟨zG,hr,by simp only[eF];omega,by simp only[eF,eN];omega,zG⟩;rw[uZ hring];rw[oR]at c⊢;obtain⟨h1,h2,h3,h4,h6,h7⟩:=c;refine⟨h1,Sp,gL,h4,λs hs=>?_,?_⟩
 ·rcases aG.1 hs with hs|hs
  ·obtain⟨g1,g2⟩:=h6 s hs
   exact⟨gL,g2⟩
  ·simp at hs
   subst hs;exact⟨gL,hring,_,ak hk,rfl,λ_=>zG⟩
 ·rw[List.pairwise_append]
  refine⟨h7,ab,λa ha b hb=>?_⟩;simp at hb;subst hb;have:=(h6 a ha).1;unfold Xg;simp only;omega
theorem Jq{h:Hub}(c:bq h){k:Nat}(hk:k<h.subs.length){r:Ring}(hr:dy r)(hd:∀d∈h.docs,d.name=h.subs[k].doc->(h.subs[k].r.out=false->h.subs[k].r.next+h.subs[k].r.list.length=ar d+1)->r.out=false->r.next+r.list.length=ar d+1) :
 bq ⟨h.shut,h.docs,h.subs.set k ⟨h.subs[k].id,h.subs[k].doc,r⟩,h.last⟩:=by
 rw[oR]at c⊢;obtain⟨h1,h2,h3,h4,h6,h7⟩:=c;refine⟨h1,nT,h3,h4,λs hs=>?_,abc (f:=Sub.id) (R:=λa b:Int=>a<b) hk rfl h7⟩;rcases dB hs with hs|rfl
 ·exact h6 s hs
 ·obtain⟨g1,g2,d,hx,hn,g3⟩:=h6 _ (ak hk)
  exact⟨g1,hr,d,hx,hn,hd d hx hn g3⟩
theorem Py{h:Hub}{name:ByteArray}{t:List Int}(hz:(eH h name t).2=0):bq (eH h name t).1/\qE h.docs (eH h name t).1.docs:=by
 unfold eH at hz⊢
 split at hz
 ·rename_i c
  rw[ai c]
  split at hz
  ·simp at hz
  ·rename_i c1
   rw[aj c1]
   split at hz
   ·simp at hz
   ·rename_i c2
    rw[aj c2]
    split at hz
    ·simp at hz
    ·rename_i c3
     rw[aj c3];exact⟨ad3 c.1 c.2 c2 c3,λnm ⟨d,hd,e⟩=>⟨d,rA.2 (.inr hd),e⟩⟩
 ·simp at hz
theorem I3{h:Hub}{name:ByteArray}{client seq base:Int}{o:List Part}(hz:(dh h name client seq base o).2.2=0):bq (dh h name client seq base o).1/\qE h.docs (dh h name client seq base o).1.docs:=by
 by_cases c:bq h
 rotate_left
 ·rw[sO c]at hz;simp at hz
 by_cases s:h.shut=true
 ·rw[pY c s]at hz;simp at hz
 rcases ee h.docs name with⟨k,hk,e,hn⟩|e;rotate_left
 ·rw[pZ c s e]at hz;simp at hz
 rw[sP c s hk e]at hz⊢
 split at hz
 ·rename_i h0
  rw[ai h0];obtain⟨d1,d2,d3⟩:=sL (gO c hk) h0;refine ZA c hk hn d1 d2 ?_;rcases d3 with d3|⟨e,he,-,-,d3,-⟩
  ·exact .inl d3
  ·rw[d3];exact .inr ⟨e,he,og (gO c hk) e⟩
 ·rename_i h0;exact absurd hz h0
theorem Ca{h:Hub}{name:ByteArray}{room:Int}(hz:(bP h name room).2.2=0):bq (bP h name room).1/\qE h.docs (bP h name room).1.docs:=by
 by_cases c:bq h/\(1<=room/\room<=6)
 rotate_left
 ·rw[kj c]at hz;simp at hz
 by_cases s:h.shut=true
 ·rw[nn c s]at hz;simp at hz
 rcases ee h.docs name with⟨k,hk,e,hn⟩|e;rotate_left
 ·rw[np c s e]at hz;simp at hz
 rw[oT c s hk e]at hz⊢
 split at hz
 ·simp at hz
 ·rename_i hl
  rw[aj hl];subst hn;exact⟨Ml c.1 c.2 hk hl,λ_ h=>h⟩
theorem Px{h:Hub}{id n:Int}(hz:(el h id n).2.2=0):bq (el h id n).1/\qE h.docs (el h id n).1.docs:=by
 by_cases c:bq h/\1<=n
 rotate_left
 ·rw[pM c]at hz;simp at hz
 rcases mi h.subs id with⟨k,hk,e,-⟩|e;rotate_left
 ·rw[sS c e]at hz;simp at hz
 rw[wJ c hk e]at hz⊢
 split at hz
 ·rename_i h0
  rw[ai h0];refine⟨?_,λ_ h=>h⟩;have hro:=(A3 c.1 hk).1;obtain⟨g1,g2,g3,g4,g5⟩:=hro;have hsub:=(oR.1 c.1).2.2.2.2.1 _ (ak hk);obtain⟨-,-,d0,hd0,hn0,hnx⟩:=hsub;obtain⟨i0,hi0,rfl⟩:=bC hd0;have hh:=bM (gO c.1 hi0)
  cases ho:h.subs[k].r.out with
  |true=>rw[sN ⟨⟨g1,g2,g3,g4,g5⟩,c.2⟩ ho]at h0;simp at h0
  |false=>
  rw[sM ⟨⟨g1,g2,g3,g4,g5⟩,c.2⟩ ho rfl];have hk1:min n.toNat h.subs[k].r.list.length<=h.subs[k].r.list.length:=Nat.min_le_right _ _;have hnx:=hnx ho;generalize min n.toNat h.subs[k].r.list.length=m at hk1;refine Jq c.1 hk ⟨λx hx=>g1 x (bI hx),g2,gL,by simp only[eO];omega,by simp only;rw[ho];simp⟩ ?_;intro d hd hdn hnext _;have:=hnext ho;simp only[eO];omega
 ·rename_i h0;exact absurd hz h0
theorem I4{h:Hub}{id:Int}(hz:(cL h id).2.2.2=0):bq (cL h id).1/\qE h.docs (cL h id).1.docs:=by
 by_cases c:bq h
 rotate_left
 ·rw[sQ c]at hz;simp at hz
 rcases mi h.subs id with⟨k,hk,e,-⟩|e;rotate_left
 ·rw[p4 c e]at hz;simp at hz
 obtain⟨hro,j,hj,ej⟩:=A3 c hk;rw[sR c hk e hj ej];refine⟨?_,λ_ h=>h⟩;have hh:=bM (gO c hj)
 have hjn:h.docs[j].name=h.subs[k].doc:=by
  rcases ee h.docs h.subs[k].doc with⟨i,hi,e',hn⟩|e'
  ·have:i=j:=by omega
   subst this;exact hn
  ·omega
 have hring:dy (eF h.subs[k].r.cap (ar h.docs[j])):=⟨zG,hro.2.1,by simp only[eF];omega,by have:=hro.2.1;simp only[eF,eN];omega,zG⟩;rw[pX hro,uZ hring];refine Jq c hk hring ?_;intro d hd hdn _ _;have:=XQ (oR.1 c).2.2.2.1.2 hd (ak hj) (by rw[hdn,hjn]);subst this;simp[eF]
theorem Pw{h:Hub}(hz:(fp h).2=0):bq (fp h).1/\qE h.docs (fp h).1.docs:=by
 unfold fp at hz⊢
 split at hz
 ·rename_i c
  rw[ai c]
  split at hz
  ·simp at hz
  ·rename_i c1
   rw[aj c1];exact⟨c,λ_ h=>h⟩
 ·simp at hz
theorem ahD{h:Hub}(c:bq h)(k:Call):bq (fDo h k).1/\qE h.docs (fDo h k).1.docs:=by
 have same:bq h/\qE h.docs h.docs:=⟨c,λ_ h=>h⟩;unfold fDo
 split
 ·split
  ·split
   ·rename_i z;exact Py z
   ·exact same
  ·split
   ·split
    ·rename_i z;exact I3 z
    ·exact same
   ·split
    ·exact same
    ·split
     ·split
      ·rename_i z;exact Ca z
      ·exact same
     ·split
      ·split
       ·rename_i z;exact Px z
       ·exact same
      ·split
       ·split
        ·rename_i z;exact I4 z
        ·exact same
       ·split
        ·rename_i z;exact Pw z
        ·exact same
 ·exact same
set_option maxHeartbeats 3200000
def sV(d:Desk):Prop:=bq d.h/\NIn d.n
theorem Gx:jd eY:=by
 unfold jd eY
 decide
theorem JT(n:Int)(h:(fg eY [] n).2=true):NIn (fg eY [] n).1:=by
 have hm:(gz eY []).2=true/\1<=n/\n<=4:=aR λc=>by rw[u3 c]at h;cases h
 exact(abJ Gx ⟨ab,by intro n hn;cases hn⟩ hm.2).2.1
theorem Rm:bq Hub.zero:=oR.2 ⟨uf,uf,uf,⟨uf,uf⟩,uf,uf⟩
theorem Hn:sV l0:=⟨Rm,JT 2 (abJ Gx ⟨ab,by intro n hn;cases hn⟩ aa).1⟩
theorem Zu{d:Desk}(h:sV d):bq d.h/\gS d.n:=⟨h.1,h.2.1⟩
theorem Hq{d:Desk}(h:sV d):vA d:=⟨cG (sd h.1).1 ag,cG (ML h.2.1) ag⟩
theorem Gv{n:Net}(N:NIn n)(e:Event):NIn (du n e).1:=by
 rcases acr N e with⟨-,s⟩|⟨h,-⟩
 ·exact s.inn
 ·rw[h];exact N
theorem abI{n:Net}(N:NIn n)(i:Nat):NIn (yX n i):=by
 have hA:NIn (p9 n i):=by
  unfold p9
  split
  ·exact Gv N _
  ·exact N
 have hB:NIn (vJ n i):=Gv hA _;have hC:NIn (qW n i).1:=Gv hB _;unfold yX
 split
 ·exact Gv hC _
 ·exact hC
theorem JR{n:Net}(N:NIn n):∀i,NIn (bN n i)
 |0=>N
 |i+1=>abI (JR N i) i
theorem Gu{n:Net}(N:NIn n):∀k,NIn (eX n k)
 |0=>N
 |k+1=>JR (Gu N k) _
theorem wP{d:Desk}(h:sV d)(s:List UInt8):sV (qK d s).1:=by
 have hk:∀(x:Desk) (b:ByteArray),sV x->sV ((x,b):Desk×ByteArray).1:=λ_ _ h=>h
 unfold qK oV l8
 split
 ·exact hk _ _ h
 split
 ·exact hk _ _ h
 split
 ·exact hk _ _ ⟨(ahD h.1 _).1,h.2⟩
 split
 ·exact hk _ _ ⟨h.1,Gv h.2 _⟩
 split
 ·refine hk _ _ ⟨h.1,?_⟩
  show NIn (jl d.n).1
  unfold jl;rw[ai h.2.1];exact Gu h.2 6
 split
 ·exact hk _ _ h
 split
 ·exact hk _ _ h
 split
 ·exact hk _ _ h
 split
 ·split
  ·rename_i hn
   exact hk _ _ ⟨h.1,JT _ hn⟩
  ·exact hk _ _ h
 ·exact hk _ _ h
def sA(x:List UInt8):Prop:=(10:UInt8)∉x/\x.length<=2^25
theorem ad7(n:Int):(10:UInt8)∉aW n:=oM n xh
theorem OD(o:List Part):(10:UInt8)∉cJ o:=by
 unfold cJ
 split
 ·split
  ·decide
  ·refine wq ag (λw hw=>?_)
   obtain⟨p,-,rfl⟩:=cH.1 hw;exact wc xh ag ag ag ag p
 ·exact j7
theorem CS(o:List Part):(10:UInt8)∉jt (cJ o):=by
 unfold jt;intro h;obtain⟨x,hx,he⟩:=cH.1 h
 split at he
 ·exact absurd he ag
 ·subst he;exact OD o hx
theorem PE(k:Int):(10:UInt8)∉gf k:=by
 unfold gf;exact xv
theorem PP(k:Int):(10:UInt8)∉iU k:=by
 unfold iU;exact xv
theorem II(l:List Int):(10:UInt8)∉dC l:=by
 exact U0
theorem wj{s:ByteArray}(h:jd s):(10:UInt8)∉s.data.toList:=λhm=>by
 exact Wx
theorem ON{s:ByteArray}(h:jd s):s.data.toList.length<=8:=by
 have h1:=cO s.data.toList;rw[oh]at h1;have h2:=h.1.2;omega
theorem acK(c:Call):sA (aU c):=by
 by_cases ok:cOk c
 rotate_left
 ·unfold aU
  rw[aj ok];exact⟨j7,ab⟩
 rw[mR ok];refine⟨wq ag (λw hw=>?_),?_⟩
 ·unfold cw at hw
  simp only[aQ,aG]at hw;rcases hw with rfl|hw|hw|hw|hw|hw|hw
  ·exact PP _
  ·split at hw
   ·rename_i hd
    rw[eU.1 hw];exact wj (ok.2.2.2.2.2 hd)
   ·exact xx
  all_goals
   split at hw
   ·rw[eU.1 hw]
    first|exact ad7 _|exact CS _|exact II _
   ·exact xx
 ·have hd:=ok.1.2.1
  have hs:c.doc.data.toList.length=c.doc.size:=by
   have:=cO c.doc.data.toList;rw[oh]at this;exact this.symm
  have ht:=ok.1.2.2.2.1.1;have h5:=lT c.text
  have h:=Fb (l:=cw c) (B:=2500000) (c:=32) (λw hw=>by
   unfold cw at hw;simp only[aQ,aG]at hw;have n1:=bQ c.client;have n2:=bQ c.seq;have n3:=bQ c.n;have n4:=ja c.o;have n5:=yd c.kind;rcases hw with rfl|hw|hw|hw|hw|hw|hw
   ·omega
   all_goals
    split at hw
    ·rw[eU.1 hw];omega
    ·cases hw)
  have hl:(cw c).length<=7:=by
   unfold cw;simp only[bu,cP]
   (repeat' split)<;>simp
  have:=KQ (2500000+1) hl;omega
theorem Zn(e:Event):sA (bV e):=by
 unfold bV
 split
 ·have n1:=bQ e.who
  have n2:=bQ e.n;have n4:=ja e.o;have n5:(gf e.kind).length<=10:=by unfold gf;(repeat' split)<;>decide
  refine⟨?_,?_⟩
  ·simp only[aG,aQ,not_or]
   refine⟨PE _,ag,ad7 _,?_⟩
   split
   ·simp only[aQ,not_or]
    exact⟨ag,CS _⟩
   split
   ·simp only[aQ,not_or]
    exact⟨ag,ad7 _⟩
   ·exact j7
  ·simp only[cP,bu]
   (repeat' split)<;>simp only[bu,eN]<;>omega
 ·exact⟨j7,ab⟩
def nr(L:List (List UInt8)):List UInt8:=(L.map λx=>x++[10]).flatten
theorem Ob{x r:List UInt8}(h:(10:UInt8)∉x):bc 10 (x++10::r)=x::bc 10 r:=by
 induction x with
 |nil=>simp[bc]
 | cons y x ih =>
   simp only[aQ,not_or]at h;have hy:¬y=10:=λe=>h.1 e.symm
   rw[bU,bc,aj hy,ih h.2]
theorem CG:∀{L:List (List UInt8)},(∀x∈L,(10:UInt8)∉x)->bc 10 (nr L)=L++[[]]
 | [],_=>rfl
 | x :: L, h => by
   have e:nr (x::L)=x++10::nr L:=by simp[nr]
   rw[e,Ob (h x ab),CG (λy hy=>h y (by simp[hy]))];rfl
theorem GH{L:List (List UInt8)}(h:∀x∈L,(10:UInt8)∉x):n8 (nr L)=L:=by
 unfold n8;rw[CG h,ai ab,List.dropLast_concat]
theorem RU{L:List (List UInt8)}{i:Nat}(h:i<L.length):nr (L.take (i+1))=nr (L.take i)++(L[i]++[10]):=by
 unfold nr;exact SZ
theorem HT{L:List (List UInt8)}(h:∀x∈L,sA x):(nr L).length<=(2^25+1)*L.length:=by
 unfold nr
 induction L with
 |nil=>simp
 | cons x L ih =>
   have h1:=ih (λy hy=>h y (by simp[hy]));have h2:=(h x ab).2;simp only[bR,Qn,cP,bu,eN,Nat.mul_add]at h1⊢;omega
theorem adv{n:Net}(N:NIn n){r:Rep}(hr:r∈n.reps)(hf:n.d.fr<=r.rev):fH r.buf<=tot n:=by
 obtain⟨i,hi,rfl⟩:=bC hr;obtain⟨a1,a2,a3,a4,a5⟩:=N.1.2.2 i hi;have hm:=FL n.d hi;have hin:=N.2.2 _ (ak hi);have hle:=Yj N.1.1 hf a3;have htx:=a4 (gG N.1.1 hf a3).1;rw[htx]at hle;have hs:=Ym n.d.list (n.reps[i].rev-n.d.fr).toNat;obtain⟨g1,g2,g3,g4,g5,g6,g7,g8,g9⟩:=a1;have t1:=E9 g5.1;have t2:=E9 g6.1;unfold tot;by_cases q:qC n.d n.reps[i]
 ·rw[OB q]at hm
  have:=X6 (hin q hf);omega
 ·rw[Aw q]at hm
  omega
theorem aao{n:Net}(N:NIn n)(e:Event){r':Rep}(hr:r'∈(du n e).1.reps) :
 r'∈n.reps\/(du n e).1.d.fr<=r'.rev\/∃r∈n.reps,fH r'.buf<=fH r.buf+Pn e.o:=by
 by_cases hev:RD n e
 rotate_left
 ·rw[xX hev]at hr;exact .inl hr
 obtain⟨i,hi⟩:∃i:Nat,e.who=i:=⟨e.who.toNat,DZ⟩;have hl:i<n.reps.length:=DZ;have hat:=N.1.2.2 i hl;have hmem:=ak hl
 have hsent:(eS n.reps[i]).2.2=true->r'∈n.reps.set i (eS n.reps[i]).1->r'∈n.reps\/∃r∈n.reps,fH r'.buf<=fH r.buf+Pn e.o:=λhy hr=>by
  have c:cm n.reps[i]/\n.reps[i].has=false/\¬idle n.reps[i].buf/\n.reps[i].seq≠999999999:=aR λc=>Lb
  rw[kO c]at hr;rcases dB hr with h|h
  ·exact .inl h
  refine .inr ⟨_,hmem,?_⟩;rw[h];have ho:=hat.1.2.2.2.2.2.1.1;have h0:=pN ho;have h1:=(lY (n:=fH n.reps[i].buf) aa ho.2.2).2.2.1
  show fH (dv (fH n.reps[i].buf))<=_
  omega
 rw[u4 hev hi hl]at hr⊢;unfold DN at hr⊢;by_cases k1:e.kind=1
 ·rw[ai k1]at hr⊢
  by_cases hy:(iq n.reps[i] e.o).2=true
  ·rw[ai hy]at hr⊢
   obtain⟨a1,a2,a3,a4,a5⟩:=Hh hy;rw[a3]at hr;rcases dB hr with h|h
   ·exact .inl h
   refine .inr (.inr ⟨_,hmem,?_⟩);rw[h];have c:cg n.reps[i].buf/\cg e.o/\fH n.reps[i].buf=bO e.o:=aR λc=>by rw[l7 c]at a2;cases a2
   have h1:=(M9 c.1 c.2.1 c.2.2).2.2.2.1;have h2:=E9 c.2.1
   show fH (cQ n.reps[i].buf e.o).1<=_
   have h3:=c.2.2;omega
  ·rw[aj hy]at hr;exact .inl hr
 rw[aj k1]at hr⊢;by_cases k2:e.kind=2
 ·rw[ai k2]at hr⊢
  by_cases hy:(eS n.reps[i]).2.2=true
  ·rw[ai hy]at hr⊢
   rcases hsent hy hr with h|h
   ·exact .inl h
   ·exact .inr (.inr h)
  ·rw[aj hy]at hr;exact .inl hr
 rw[aj k2]at hr⊢;by_cases k3:e.kind=3
 ·rw[ai k3]at hr⊢
  by_cases hy:(eS n.reps[i]).2.2=true
  ·rw[ai hy]at hr⊢
   rcases hsent hy hr with h|h
   ·exact .inl h
   ·exact .inr (.inr h)
  ·rw[aj hy]at hr;exact .inl hr
 rw[aj k3]at hr⊢;by_cases k4:e.kind=4
 ·rw[ai k4]at hr⊢
  by_cases hy:(dY n.reps[i]).2=true
  ·rw[ai hy]at hr;exact .inl hr
  ·rw[aj hy]at hr;exact .inl hr
 rw[aj k4]at hr⊢;by_cases k5:e.kind=5
 ·rw[ai k5]at hr⊢
  by_cases hy:(kK n.d n.reps[i] e.n).2=0
  ·rw[ai hy]at hr⊢
   rcases dB hr with h|h
   ·exact .inl h
   refine .inr (.inl ?_);rw[h]
   show n.d.fr<=_
   unfold kK at hy⊢;by_cases m0:e.n<0
   ·rw[ai m0]at hy;cases hy
   rw[aj m0]at hy⊢;have hh:=bM N.1.1;have hrev:=hat.2.2.1
   have hfe:fW n.d n.reps[i].rev=if n.reps[i].rev<n.d.fr then([],3)else(n.d.list.drop (n.reps[i].rev-n.d.fr).toNat,0):=by
    unfold fW;rw[ai N.1.1,aj aa]
   rw[hfe]at hy⊢;by_cases q:n.reps[i].rev<n.d.fr
   ·rw[ai q]at hy;simp at hy
   rw[aj q,ai rfl]at hy⊢;simp only at hy⊢;by_cases hz:(ga n.reps[i] ((n.d.list.drop (n.reps[i].rev-n.d.fr).toNat).take e.n.toNat)).2=true
   ·rw[ai hz]
    simp only;unfold ga at hz⊢;rw[ai hat.1]at hz⊢
    cases hx:gr n.reps[i] ((n.d.list.drop (n.reps[i].rev-n.d.fr).toNat).take e.n.toNat)with
    |none=>rw[hx]at hz;simp at hz
    |some x=>exact(RX N.1.1 N.2.1 _ (Xn N hl aa) hx).1.fr
   ·rw[aj hz]at hy;simp at hy
  ·rw[aj hy]at hr;exact .inl hr
 rw[aj k5]at hr⊢;rcases dB hr with h|h
 ·exact .inl h
 refine .inr (.inl ?_);rw[h,(X0 N hl).2.2.1];have:=bM N.1.1
 show n.d.fr<=_
 omega
theorem acP(x:Int):0<=bits .and .i64 x 255/\bits .and .i64 x 255<=255:=by
 have h:∀n:Nat,n<=255->Go.IntKind.i64.wrap (n:Int)=n:=λn hn=>al _ ⟨aa,aa⟩
 have hle:∀a:Nat,a &&& 255<=255:=λa=>Nat.and_le_right
 simp only[bits];have e:(BitVec.ofInt IntKind.i64.bits 255).toNat=255:=ag;have:=h _ (hle (BitVec.ofInt IntKind.i64.bits x).toNat);simp only[BitVec.toNat_and,e];rw[this];have:=hle (BitVec.ofInt IntKind.i64.bits x).toNat;omega
def Yx(p:Int->Prop)(rr:RR):Prop:=∃x:Int,p x/\rr=.one (.c (.v (.int .i64 x)) 1)
theorem tD(l:List UInt8)(hl:l.length<=2^40):nt Tryz.prog 81 (l.map ma) 44 [] (Yx λx=>0<=x/\x<=255):=by
 refine nt.intro au Tryz.func44 ah rfl rfl rfl (ao rfl) (λw0 base b u i h hi0 hi1 hu=>?_);have bi:IntKind.i64.bits=64:=rfl;simp[ju];refine cF.quiet eok mix ah ?_;simp[bi];generalize hx:bits BinOp.and IntKind.i64 _ 255=x;have hx1:=acP (bits .xor .i64 (Go.IntKind.i64.wrap (Go.IntKind.i64.wrap (h*6364136223846793005)+1442695040888963407) / 8589934592) (Go.IntKind.i64.wrap (Go.IntKind.i64.wrap (h*6364136223846793005)+1442695040888963407) / 35184372088832));generalize Go.IntKind.i64.wrap (Go.IntKind.i64.wrap (h*6364136223846793005)+1442695040888963407)=h1 at hx hx1⊢;rw[hx]at hx1;refine cF.quiet eok mix ah ?_;simp;by_cases c:i<(l.length:Int)
 ·simp[c]
  refine drw eok mix [0,1,2,3,4,5,6,7,8,9,10,11,12,13] [14] (.c 14 14 16383 0 (.l 14 0) .s) ?_;simp
  try intros
  refine⟨_,hu,?_⟩;obtain⟨k,rfl⟩:∃k:Nat,i=k:=⟨i.toNat,aa⟩;have hk:k<l.length:=aa;have hk2:=bL (n:=k) aa;have hy1:=acP (Go.IntKind.i64.wrap (x+Go.IntKind.i64.wrap (l[k].toNat:Int)));generalize hy:bits .and .i64 (Go.IntKind.i64.wrap (x+Go.IntKind.i64.wrap (l[k].toNat:Int))) 255=y at hy1;simp[hk,hk2,hy];refine dJ (.c _ 1) ⟨y,hy1,rfl⟩ ?_;simp;exact cU rfl aa aa
 ·simp[c]
  refine dJ (.c _ 1) ⟨_,hx1,rfl⟩ ?_;simp;exact cU rfl aa lD
def ahR(n x:Int):Prop:=0<=x/\(n<=0->x=0)/\(0<n->x<n)
theorem df(l:List UInt8)(hl:l.length<=2^40)(n:Int):nt Tryz.prog 81 (l.map ma) 12 [.c (.v (.int .i64 n))] (Yx (ahR n)):=by
 refine nt.intro au Tryz.func12 ah rfl rfl rfl (ao rfl) (λw0 base b u i h hi0 hi1 hu=>?_);have hi1:i<=(l.length:Int):=lD;simp[ju];by_cases c0:n<=0
 ·simp[c0]
  refine dJ (.c _ 1) ⟨0,⟨aa,aa,aa⟩,rfl⟩ ?_;simp;exact cU rfl hi0 hi1
 have hn:n≠0:=aa;by_cases c1:n<=256
 ·simp[c0,c1]
  refine ae.cur (tD l hl) hu ab rfl hi0 hi1 ab ?_
  rintro _ i1 h1 ⟨x,hx,rfl⟩ g0 g1
  simp[hn];refine dJ (.c _ 1) ⟨x.tmod n,⟨Int.tmod_nonneg _ hx.1,aa,λhp=>Int.tmod_lt_of_pos _ hp⟩,rfl⟩ ?_;exact mU
 ·simp[c0,c1]
  refine ae.cur (tD l hl) hu ab rfl hi0 hi1 ab ?_
  rintro _ i1 h1 ⟨x,hx,rfl⟩ g0 g1
  simp;refine ae.cur (tD l hl) hu ab rfl g0 g1 ab ?_
  rintro _ i2 h2 ⟨y,hy,rfl⟩ g0 g1
  simp;refine ae.cur (tD l hl) hu ab rfl g0 g1 ab ?_
  rintro _ i3 h3 ⟨z,hz,rfl⟩ g0 g1
  simp;refine ae.cur (tD l hl) hu ab rfl g0 g1 ab ?_
  rintro _ i4 h4 ⟨w,hw,rfl⟩ g0 g1
  have w1:=al (x*16777216) aa;have w2:=al (y*65536) aa;have w3:=al (z*256) aa;have w4:=al (x*16777216+y*65536) aa;have w5:=al (x*16777216+y*65536+z*256) aa;have w6:=al (x*16777216+y*65536+z*256+w) aa;simp[hn,w1,w2,w3,w4,w5,w6];refine dJ (.c _ 1) ⟨(x*16777216+y*65536+z*256+w).tmod n,⟨Int.tmod_nonneg _ aa,aa,λhp=>Int.tmod_lt_of_pos _ hp⟩,rfl⟩ ?_;exact mU
def ajK(p:ByteArray->Prop)(rr:RR):Prop:=∃x:ByteArray,p x/\rr=.one (.c (.v (.string x)) 1)
def amj(rr:RR):Prop:=∃q:Bool,rr=.one (.c (.v (.bool q)) 1)
theorem nB(l:List UInt8)(hl:l.length<=2^40)(n:Int):nt Tryz.prog 81 (l.map ma) 142 [.c (.v (.int .i64 n))] amj:=by
 refine nt.intro au Tryz.func142 ah rfl rfl rfl (ao rfl) (λw0 base b u i h hi0 hi1 hu=>?_);have hi1:i<=(l.length:Int):=lD;simp[ju];refine ae.cur (df l hl n) hu ab rfl hi0 hi1 ab ?_
 rintro _ i1 h1 ⟨x,hx,rfl⟩ g0 g1
 simp;refine dJ (.c _ 1) ⟨dc (x=0),rfl⟩ ?_;exact mU
theorem Bz(n:Int) : -9223372036854775808<=Go.IntKind.i64.wrap n/\Go.IntKind.i64.wrap n<=9223372036854775807:=by
 rw[Go.IntKind.wrap_i64];omega
theorem J6(l:List UInt8)(hl:l.length<=2^40)(L:List Int)(hL:0<L.length):nt Tryz.prog 81 (l.map ma) 293 [.c (.s (L.map aX))] (Yx λx=>x∈L):=by
 refine nt.intro au Tryz.func293 ah rfl rfl rfl (ao rfl) (λw0 base b u i h hi0 hi1 hu=>?_);exact WM
theorem AR(l:List UInt8)(hl:l.length<=2^40)(L:List ByteArray)(hL:0<L.length):nt Tryz.prog 81 (l.map ma) 45 [.c (.s (L.map λs=>[.v (.string s)]))] (ajK λx=>x∈L):=by
 refine nt.intro au Tryz.func45 ah rfl rfl rfl (ao rfl) (λw0 base b u i h hi0 hi1 hu=>?_);exact WM
theorem xR(l:List UInt8)(hl:l.length<=2^40)(lo hi:Int)(hlo : -9223372036854775808<=lo/\lo<=9223372036854775807)(hhi : -9223372036854775808<=hi/\hi<=9223372036854775807) :
 nt Tryz.prog 81 (l.map ma) 234 [.c (vi lo),.c (vi hi)] (Yx λx=>-9223372036854775808<=x/\x<=9223372036854775807):=by
 refine nt.intro au Tryz.func234 ah rfl rfl rfl (ao rfl) (λw0 base b u i h hi0 hi1 hu=>?_);have hi1:i<=(l.length:Int):=lD;simp[ju];refine ae.cur (df l hl 12) hu ab rfl hi0 hi1 ab ?_
 rintro _ i1 h1 ⟨x,hx,rfl⟩ g0 g1
 simp;by_cases c0:x=0
 ·simp[c0]
  refine dJ (.c _ 1) ⟨lo,hlo,rfl⟩ ?_;simp;exact cU rfl g0 g1
 by_cases c1:x=1
 ·simp[c1]
  refine dJ (.c _ 1) ⟨hi,hhi,rfl⟩ ?_;simp;exact cU rfl g0 g1
 by_cases c2:x=2
 ·simp[c2]
  refine dJ (.c _ 1) ⟨_,Bz (lo-1),rfl⟩ ?_;simp;exact cU rfl g0 g1
 by_cases c3:x=3
 ·simp[c3]
  refine dJ (.c _ 1) ⟨_,Bz (hi+1),rfl⟩ ?_;simp;exact cU rfl g0 g1
 by_cases c4:x=4
 ·simp[c4]
  intro bb;refine ae.cur (J6 l hl [9223372036854775807,-9223372036854775808,-1,0,1000000001] ab) hu ab rfl g0 g1 ab ?_
  rintro _ i2 h2 ⟨y,hy,rfl⟩ g0 g1
  simp;refine dJ (.c _ 1) ⟨y,by simp at hy;omega,rfl⟩ ?_;simp;exact cU rfl g0 g1
 simp[c0,c1,c2,c3,c4];by_cases c5:60000<Go.IntKind.i64.wrap (hi-lo)
 ·simp[c5]
  refine ae.cur (df l hl 60000) hu ab rfl g0 g1 ab ?_
  rintro _ i2 h2 ⟨y,hy,rfl⟩ g0 g1
  simp;refine dJ (.c _ 1) ⟨_,Bz (lo+y),rfl⟩ ?_;simp;exact cU rfl g0 g1
 ·simp[c5]
  refine ae.cur (df l hl (Go.IntKind.i64.wrap (Go.IntKind.i64.wrap (hi-lo)+1))) hu ab rfl g0 g1 ab ?_
  rintro _ i2 h2 ⟨y,hy,rfl⟩ g0 g1
  simp;refine dJ (.c _ 1) ⟨_,Bz (lo+y),rfl⟩ ?_;simp;exact cU rfl g0 g1
theorem Za(l:List UInt8)(hl:l.length<=2^40):nt Tryz.prog 81 (l.map ma) 233 [] (Yx jM):=by
 refine nt.intro au Tryz.func233 ah rfl rfl rfl (ao rfl) (λw0 base b u i h hi0 hi1 hu=>?_);have hi1:i<=(l.length:Int):=lD;simp[ju];refine ae.cur (nB l hl 8) hu ab rfl hi0 hi1 ab ?_
 rintro _ i1 h1 ⟨q,rfl⟩ g0 g1
 simp
 cases q with
 | true =>
   simp;intro bb;refine ae.cur (J6 l hl [0,127,128,2047,2048,55295,57344,65535,65536,1114111,10,32] ab) hu ab rfl g0 g1 ab ?_
   rintro _ i2 h2 ⟨y,hy,rfl⟩ g0 g1
   simp;refine dJ (.c _ 1) ⟨y,by unfold jM;simp at hy;omega,rfl⟩ ?_;exact mU
 | false =>
   simp;refine ae.cur (df l hl 6) hu ab rfl g0 g1 ab ?_
   rintro _ i2 h2 ⟨y,hy,rfl⟩ g0 g1
   have hw:=al (97+y) (by have:=hy.1;have:=hy.2.2 aa;omega);simp[hw];refine dJ (.c _ 1) ⟨97+y,by unfold jM;have:=hy.1;have:=hy.2.2 aa;omega,rfl⟩ ?_;exact mU
def amh(p:List Int->Prop)(rr:RR):Prop:=∃L:List Int,p L/\rr=.one (.c (.s (L.map aX)) 1)
theorem GL(l:List UInt8)(hl:l.length<=2^40)(most:Int)(hm0:0<=most)(hm:most<=1000):nt Tryz.prog 81 (l.map ma) 147 [.c (vi most)] (amh λL=>(L.length:Int)<=most/\∀x∈L,jM x):=by
 refine nt.intro au Tryz.func147 ah rfl rfl rfl (ao rfl) (λw0 base b u i h hi0 hi1 hu=>?_);have hi1:i<=(l.length:Int):=lD;have hw:=al (most+1) aa;simp[ju,hw];intro b7;refine ae.cur (df l hl (most+1)) hu ab rfl hi0 hi1 ab ?_
 rintro _ i1 h1 ⟨n,hn,rfl⟩ g0 g1
 have hn1:=hn.1;have hn2:=hn.2.2 aa;obtain⟨k,rfl⟩:∃k:Nat,n=k:=⟨n.toNat,aa⟩;simp
 refine aF eok (λx:Nat×List Int×Hd×Int×Int=>(x.2.1.length:Int)+x.1<=most/\(∀s∈x.2.1,jM s)/\0<=x.2.2.2.1/\x.2.2.2.1<=(l.length:Int))
  (λx=>⟨22,0,[(6,.v (.int .i64 x.1)),(5,.sl 112 x.2.2.1 1 0 x.2.1.length),(0,.p 0 b 0)],[(0,.vars b 81 (ju u l.length x.2.2.2.1 x.2.2.2.2)),(112,.rows x.2.2.1 1 (x.2.1.map aX) true)]⟩)
  (λx=>x.1) (k,[],some (b7,0,0),i1,h1) aJ ab (λx hx=>Ent.refl ?_)
 obtain⟨m,L,H,i2,h2⟩:=x;obtain⟨hx1,hx2,hx3,hx4⟩:=hx;simp only at hx1 hx2 hx3 hx4⊢;by_cases hm1:0<m
 ·simp[hm1]
  refine ae.cur (Za l hl) hu ab rfl hx3 hx4 ab ?_
  rintro _ i3 h3 ⟨s,hs,rfl⟩ g2 g3
  simp;intro b19;refine⟨aa,λH2=>Ent.refl ?_⟩;have hw2:=al ((m:Int)-1) aa;refine⟨m-1,L++[s],H2,i3,⟨aJ,?_,g2,g3⟩,aa,h3,by simp[hw2];omega⟩;intro y hy;rcases aG.1 hy with hy|hy
  ·exact hx2 y hy
  ·simp at hy;subst hy;exact hs
 ·have:m=0:=by omega
  subst this;simp;refine dJ (.c _ 1) ⟨L,⟨aa,hx2⟩,rfl⟩ ?_;simp;exact cU rfl hx3 hx4
theorem xP(l:List UInt8)(hl:l.length<=2^40):nt Tryz.prog 81 (l.map ma) 46 [] (ajK λs=>jd s):=by
 refine nt.intro au Tryz.func46 ah rfl rfl rfl (ao rfl) (λw0 base b u i h hi0 hi1 hu=>?_);have hi1:i<=(l.length:Int):=lD;simp[ju];intro b4;refine ae.cur (AR l hl [⟨#[97]⟩,⟨#[98]⟩,⟨#[110,111,116,101,115]⟩,⟨#[116,111,100,111]⟩] ab) hu ab rfl hi0 hi1 ab ?_
 rintro _ i1 h1 ⟨s,hs,rfl⟩ g0 g1
 have hok:jd s:=by
  simp at hs;rcases hs with rfl|rfl|rfl|rfl<;>(unfold jd;decide)
 simp;refine dJ (.c _ 1) ⟨s,hok,rfl⟩ ?_;exact mU
set_option maxHeartbeats 6400000
def OC(fr:Int)(p:Part):Prop:=(1<=p.kind/\p.kind<=3)/\(0<=p.n/\p.n<=fr)/\p.signs.length<=3/\∀x∈p.signs,jM x
def pI(fr:Int)(p:Part):Prop:=((p.kind=1\/p.kind=3)/\(0<=p.n/\p.n<=fr)/\p.signs=[])\/(p.kind=2/\p.n=0/\p.signs.length<=3/\dQ p.signs)
theorem pI.b{fr:Int}(h0:0<=fr){p:Part}(h:pI fr p):OC fr p:=by
 rcases h with⟨h1,h2,h3⟩|⟨h1,h2,h3,h4⟩
 ·exact⟨aa,h2,by simp[h3],by simp[h3]⟩
 ·exact⟨aa,aa,h3,h4⟩
def pts:List Part->Nat
 | []=>0
 |p::o=>(if p.kind=2 then psz p else 0)+pts o
def opD(fr:Int)(o:List Part):Prop:=(∀p∈o,pI fr p)/\(frs o:Int)=fr/\tos o<=frs o+12/\pts o<=12
theorem ri(p:Part):∀o:List Part,pts (o++[p])=pts o+(if p.kind=2 then psz p else 0)
 | []=>by simp[pts]
 |q::o=>by simp only[bU,pts,ri p o];omega
theorem kg(p:Part):∀o:List Part,frs (o++[p])=frs o+(if p.kind=2 then 0 else psz p)
 | []=>by simp[frs]
 |q::o=>by simp only[bU,frs,kg p o];omega
theorem qX(p:Part):∀o:List Part,tos (o++[p])=tos o+(if p.kind=3 then 0 else psz p)
 | []=>by simp[tos]
 |q::o=>by simp only[bU,tos,qX p o];omega
theorem opD.ok{fr:Int}{o:List Part}(h:opD fr o)(h0:0<=fr)(h1:fr<=188)(hl:o.length<=42):cg o/\bO o=fr/\fH o<=fr+12:=by
 have hp:∀p∈o,aS p:=λp hp=>by
  rcases h.1 p hp with⟨h1,h2,h3⟩|⟨h1,h2,h3,h4⟩
  ·exact .inl ⟨h1,aa,h3⟩
  ·exact .inr ⟨h1,h2,aa,h4⟩
 have hps:gk o:=⟨hp,aa⟩;have f:=zb hps;have t:=Gn hps;have:=h.2;exact⟨⟨hps,aa,aa⟩,aa,aa⟩
def agR(p:List Part->Prop)(rr:RR):Prop:=∃L:List Part,p L/\rr=.one (.c (.s (L.map Part.row)) 3)
theorem N5{fr:Int}{o:List Part}{lf:Int}(h:∀q∈o,pI fr q)(hl:0<=lf/\lf<=fr)(hf:(frs o:Int)+lf=fr)(ht:tos o<=frs o+12)(hq:pts o<=12)(hn:o.length<=41)(h0:0<=fr) :
 (o++[(⟨1,lf,[]⟩:Part)]).length<=42/\(∀p∈o++[(⟨1,lf,[]⟩:Part)],OC fr p)/\opD fr (o++[(⟨1,lf,[]⟩:Part)]):=by
 have hall:∀q∈o++[(⟨1,lf,[]⟩:Part)],pI fr q:=λq hq=>(aG.1 hq).elim (h q) (λh=>by simp at h;subst h;exact Or.inl ⟨Or.inl rfl,hl,rfl⟩)
 refine⟨aJ,λp hp=>(hall p hp).b h0,hall,?_,?_,?_⟩
 ·rw[kg];simp[psz];omega
 ·rw[kg,qX];simp[psz];omega
 ·rw[ri];simp;omega
theorem BY(l:List UInt8)(hl:l.length<=2^40)(fr:Int)(hf0:0<=fr)(hf:fr<=2^40):nt Tryz.prog 81 (l.map ma) 143 [.c (vi fr)] (agR λo=>o.length<=42/\(∀p∈o,OC fr p)/\opD fr o):=by
 refine nt.intro au Tryz.func143 ah rfl rfl rfl (ao rfl) (λw0 base b u i h hi0 hi1 hu=>?_);have hi1:i<=(l.length:Int):=lD;simp;intro b11
 refine aF eok (λx:List Part×Int×Nat×Hd×Int×Int=>x.1.length<=40/\(∀p∈x.1,pI fr p)/\(0<=x.2.1/\x.2.1<=fr)/\x.2.2.1<=12/\0<=x.2.2.2.2.1/\x.2.2.2.2.1<=(l.length:Int)/\(frs x.1:Int)+x.2.1=fr/\tos x.1+x.2.2.1<=frs x.1+12/\pts x.1+x.2.2.1<=12)
  (λx=>⟨75,0,[(7,.v (.int .i64 x.2.2.1)),(6,.v (.int .i64 x.2.1)),(5,.sl 176 x.2.2.2.1 3 0 x.1.length),(0,.p 0 b 0)],[(0,.vars b 81 (ju u l.length x.2.2.2.2.1 x.2.2.2.2.2)),(176,.rows x.2.2.2.1 3 (x.1.map Part.row) true)]⟩)
  (λx=>41-x.1.length) ([],fr,12,some (b11,0,0),i,h) (by simp[frs,tos,pts];omega) ab (λx hx=>Ent.refl ?_)
 obtain⟨o,left,room,H,i1,h1⟩:=x;obtain⟨x1,x2,x3,x4,x5,x6,x7,x8,x9⟩:=hx;simp only at x1 x2 x3 x4 x5 x6 x7 x8 x9⊢;simp;by_cases c:0<left
 ·simp[c]
  exact Xd
 ·simp[c]
  refine ae.cur (nB l hl 3) hu ab rfl x5 x6 ab ?_
  rintro _ i9 h9 ⟨q,rfl⟩ x5 x6
  simp
  cases q with
  | true =>
    simp;exact Xd
  | false =>
    simp;refine dJ (.c _ 3) ⟨o,⟨aa,λp hp=>(x2 p hp).b hf0,x2,aa,aa,aa⟩,rfl⟩ ?_;simp;exact cU rfl x5 x6
set_option maxHeartbeats 12800000
theorem abW(l:List UInt8)(_hl:l.length<=2^40):ac9 Tryz.prog 81 (l.map ma) 9:=by
 refine ac9.intro au Tryz.func9 ah rfl rfl rfl (ao rfl) (λw0 base u hu=>?_);simp;refine aF eok (λx:Nat×Int=>x.1<=l.length) (λx=>⟨32,0,[(4,.v (.int .i64 x.1)),(3,.v (.int .i64 x.2)),(0,.cv u l.length)],[]⟩) (λx=>l.length-x.1) (0,Go.IntKind.i64.wrap (1621+(l.length:Int))) ab ab (λx hx=>Ent.refl ?_);obtain⟨i,h⟩:=x;simp only at hx⊢;by_cases c:i<l.length
 ·by_cases c2:i<4000
  ·have c2':(i:Int)<4000:=by omega
   simp[c,c2'];refine⟨_,hu,?_⟩;simp[c];refine Ent.refl ⟨i+1,aa,aa,?_⟩;exact pf
  ·have c2':¬(i:Int)<4000:=by omega
   simp[c,c2'];exact λb=>⟨496,b,⟨rfl,rfl⟩,_,rfl⟩
 ·simp[c]
  exact λb=>⟨496,b,⟨rfl,rfl⟩,_,rfl⟩
attribute [local simp ↓] alt
set_option maxHeartbeats 6400000
def Ay(p:Part):Prop:=(-9223372036854775808<=p.kind/\p.kind<=9223372036854775807)/\(-9223372036854775808<=p.n/\p.n<=9223372036854775807)/\p.signs.length<=4/\∀x∈p.signs,-9223372036854775808<=x/\x<=9223372036854775807
theorem OC.any{fr:Int}(hf:fr<=2^40){p:Part}(h:OC fr p):Ay p:=by
 obtain⟨h1,h2,h3,h4⟩:=h;exact⟨aa,aa,aa,λx hx=>by have:=h4 x hx;unfold jM at this;omega⟩
theorem abd{o:List Part}{k:Nat}{q:Part}(_hk:k<o.length)(hp:∀p∈o,Ay p)(hq:Ay q):∀p∈o.set k q,Ay p:=λp h=>(dB h).elim (hp p) (λe=>e ▸ hq)
theorem abV(l:List UInt8)(hl:l.length<=2^40):nt Tryz.prog 81 (l.map ma) 235 [] (agR λo=>o.length<=44/\∀p∈o,Ay p):=by
 refine nt.intro au Tryz.func235 ah rfl rfl rfl (ao rfl) (λw0 base b u i h hi0 hi1 hu=>?_);have hi1:i<=(l.length:Int):=lD;simp;refine ae.cur (df l hl 12) hu ab rfl hi0 hi1 ab ?_
 rintro _ i1 h1 ⟨x,hx,rfl⟩ g0 g1
 have hx1:=hx.1;have hx2:=hx.2.2 aa;simp;refine ae.cur (BY l hl x hx1 aa) hu ab rfl g0 g1 ab ?_
 rintro _ i2 h2 ⟨o,⟨ho,hp,-⟩,rfl⟩ g0 g1
 have hpB:=hp;have hp:∀p∈o,Ay p:=λp h=>(hp p h).any aa
 simp;intro H;by_cases c0:o=[]
 ·subst c0
  simp;refine dJ (.c _ 3) ⟨[],⟨ab,ab⟩,rfl⟩ ?_;exact mU
 have hpos:0<o.length:=ca.2 c0;simp[c0];refine ae.cur (df l hl o.length) hu ab rfl g0 g1 ab ?_
 rintro _ i3 h3 ⟨k,hk,rfl⟩ g0 g1
 obtain⟨k,rfl⟩:∃n:Nat,k=n:=⟨k.toNat,by have:=hk.1;omega⟩;have hk:k<o.length:=by have:=hk.2.2 aa;omega
 simp;refine ae.cur (df l hl 12) hu ab rfl g0 g1 ab ?_
 rintro _ i4 h4 ⟨z,hz,rfl⟩ g0 g1
 simp;by_cases z0:z=0
 ·simp[z0]
  refine ae.cur (xR l hl 1 3 aa aa) hu ab rfl g0 g1 ab ?_
  rintro _ i5 h5 ⟨y,hy,rfl⟩ g0 g1
  have hm:=lX (F:=o) (m:=k) hk (g:=λrow=>jU row 0 [CD.v (Value.int IntKind.i64 y)]) (p:=⟨y,o[k].n,o[k].signs⟩) lF;simp[hk];refine dJ (.c _ 3) ⟨o.set k ⟨y,o[k].n,o[k].signs⟩,⟨aJ,abd hk hp ⟨hy,(hp _ (ak hk)).2⟩⟩,rfl⟩ ?_;have hset:(o.set k ⟨y,o[k].n,o[k].signs⟩).map Part.row=(o.map Part.row).set k (Part.row ⟨y,o[k].n,o[k].signs⟩):=Dx;simp[hm];exact LW
 by_cases z1:z=1
 ·simp[z1]
  refine ae.cur (xR l hl 0 200 aa aa) hu ab rfl g0 g1 ab ?_
  rintro _ i5 h5 ⟨y,hy,rfl⟩ g0 g1
  have hm:=lX (F:=o) (m:=k) hk (g:=λrow=>jU row 1 [CD.v (Value.int IntKind.i64 y)]) (p:=⟨o[k].kind,y,o[k].signs⟩) lF;simp[hk];refine dJ (.c _ 3) ⟨o.set k ⟨o[k].kind,y,o[k].signs⟩,⟨aJ,abd hk hp ⟨(hp _ (ak hk)).1,hy,(hp _ (ak hk)).2.2⟩⟩,rfl⟩ ?_;have hset:(o.set k ⟨o[k].kind,y,o[k].signs⟩).map Part.row=(o.map Part.row).set k (Part.row ⟨o[k].kind,y,o[k].signs⟩):=Dx;simp[hm];exact LW
 by_cases z2:z=2
 ·simp[z2]
  refine cF.open (λ_ h=>h) (k:=128) (i:=k) (j:=2) (k':=60000) (sz':=1) (sz:=3) (H:=H) (rows:=o.map Part.row) (srows:=o[k].signs.map aX) (row:=o[k].row) ab (by simp[hk]) rfl ab ag (by simp[aX]) ab (λG=>?_);have hrow:(qy (o.map Part.row) k 2 (CD.h 60000 G 1 o[k].signs.length))[k]'(by rw[nu];simpa using hk)=[vi o[k].kind,vi o[k].n,CD.h 60000 G 1 o[k].signs.length]:=by simp[qy,Part.row]
  refine drw eok mix [0,1,2,3,4,5,6,7,11,12] [8,9,10,13] (.c 10 8 4 1019 (.c 10 9 0 1019 (.c 10 10 8 1011 (.c 10 13 1009 2 (.l 10 2) .s) .s) .s) .s) ?_;simp[hk,hrow]
  try intros
  refine ae.cur (xR l hl 0 1114111 aa aa) hu ab rfl g0 g1 ab ?_;rintro _ i5 h5 ⟨y,hy,rfl⟩ g0 g1;simp[hk,hrow]
  try intros
  have hps:=hp _ (ak hk);have hp3:=(hpB _ (ak hk)).2.2.1;refine⟨aa,λHA=>?_⟩
  have hm:(qy (o.map Part.row) k 2 (CD.h 60000 G 1 o[k].signs.length)).modify k (λrow=>jU row 2 [CD.s (o[k].signs.map aX++[[CD.v (Value.int IntKind.i64 y)]])])=(o.set k ⟨o[k].kind,o[k].n,o[k].signs++[y]⟩).map Part.row:=by
   apply mc (by simp[nu])
   intro q h1 h2;by_cases hq:k=q
   ·subst hq
    simp[qy,Part.row]
   ·simp[qy,hq]
  have hset:(o.set k ⟨o[k].kind,o[k].n,o[k].signs++[y]⟩).map Part.row=(o.map Part.row).set k (Part.row ⟨o[k].kind,o[k].n,o[k].signs++[y]⟩):=Dx;rw[hm];refine dJ (.c _ 3) ⟨o.set k ⟨o[k].kind,o[k].n,o[k].signs++[y]⟩,⟨aJ,abd hk hp ⟨hps.1,hps.2.1,aJ,λq hq=>(aG.1 hq).elim (hps.2.2.2 q) (λh=>by simp at h;subst h;exact hy)⟩⟩,rfl⟩ ?_;simp;exact LW
 by_cases z3:z=3
 ·simp[z3]
  refine ae.cur (df l hl 2) hu ab rfl g0 g1 ab ?_
  rintro _ i5 h5 ⟨y,hy,rfl⟩ g0 g1
  simp;intro bA;refine⟨aa,λHA=>?_⟩;have hy1:=hy.1;have hy2:=hy.2.2 aa;refine dJ (.c _ 3) ⟨o++[⟨1,200,[]⟩,⟨3,y,[]⟩],⟨aJ,λq hq=>(aG.1 hq).elim (hp q) (λh=>by simp at h;rcases h with rfl|rfl<;>exact⟨ab,by refine⟨?_,?_⟩<;>simp<;>omega,ab,ab⟩)⟩,rfl⟩ ?_;simp[Part.row];refine⟨?_,cU rfl g0 g1⟩
  rintro row (⟨a,-,rfl⟩|rfl|rfl)<;>rfl
 simp[z0,z1,z2,z3];refine dJ (.c _ 3) ⟨o,⟨aa,hp⟩,rfl⟩ ?_;exact mU
end Go.Proofs.YtmccaifipoohfaaGreatDoor
namespace Go.Proofs.YtmccaifipoohfaaGreatDoor
open Go.AM
set_option maxRecDepth 20000
set_option maxHeartbeats 6400000
theorem BX(l:List UInt8)(hl:l.length<=2^40)(d:Doc)(hd:eW d<=2^30)(hf : -9223372036854775808<=d.fr/\d.fr<=9223372036854775807) :
 nt Tryz.prog 81 (l.map ma) 148 [.agg d.row] (Yx λx=>-9223372036854775808<=x/\x<=9223372036854775807):=by
 refine nt.intro au Tryz.func148 ah rfl rfl rfl (ao rfl) (λw0 base b u i h hi0 hi1 hu=>?_);have hi1:i<=(l.length:Int):=lD;obtain⟨n1,n2,n3,n4⟩:=fq hd;have hle:=cT n1;have hs:=dn d;have hh : -9223372036854775808<=ar d/\ar d<=9223372036854775807:=Bz _;have wl:=al ((d.list.length:Int)+1) aa;generalize ar d=hr at hs hh;simp[Doc.row];intro b3;refine ae.cur (nB l hl 6) hu ab rfl hi0 hi1 ab ?_
 rintro _ i1 h1 ⟨q,rfl⟩ g0 g1
 simp
 cases q with
 | true =>
   simp;refine drw eok mix [0,1,2,3] [4,5,6] (.c 4 4 1 14 (.c 4 5 10 4 (.c 4 6 4 0 (.l 4 0) .s) .s) .s) ?_;simp
   try intros
   refine ae.pure (hs) aV ?_;simp
   try intros
   refine ae.cur (xR l hl d.fr hr hf hh) hu ab rfl g0 g1 ab ?_;rintro _ i2 h2 ⟨y,hy,rfl⟩ g0 g1;simp
   try intros
   refine dJ (.c _ 1) ⟨y,hy,rfl⟩ ?_;exact mU
 | false =>
   simp;refine drw eok mix [0,2,3,4,5,6] [1,7,8,9] (.c 6 1 32 31 (.c 6 7 17 14 (.c 6 8 0 14 (.c 6 9 14 0 (.l 6 0) .s) .s) .s) .s) ?_;simp[wl]
   try intros
   refine ae.pure (hs) aV ?_;simp
   try intros
   refine ae.cur (df l hl ((d.list.length:Int)+1)) hu ab rfl g0 g1 ab ?_;rintro _ i2 h2 ⟨y,hy,rfl⟩ g0 g1;simp
   try intros
   refine dJ (.c _ 1) ⟨_,Bz (hr-y),rfl⟩ ?_;exact mU
theorem XJ(l:List UInt8)(hl:l.length<=2^40)(d:Doc)(hd:eW d<=2^30)(rev:Int) :
 nt Tryz.prog 81 (l.map ma) 149 [.agg d.row,.c (vi rev)] (agR λo=>o.length<=44/\∀p∈o,Ay p):=by
 refine nt.intro au Tryz.func149 ah rfl rfl rfl (ao rfl) (λw0 base b u i h hi0 hi1 hu=>?_);have hi1:i<=(l.length:Int):=lD;have hs:=mm d hd rev;have ht:=lM d rev;generalize dj d rev=tx at hs ht;obtain⟨t,ok⟩:=tx;simp only at hs ht;simp[Doc.row];intro b4;refine ae.pure hs aV ?_;simp;intro Ht
 cases ok with
 | false =>
   exact SM
 | true =>
   simp;refine ae.cur (nB l hl 10) hu ab rfl hi0 hi1 ab ?_
   rintro _ i1 h1 ⟨q,rfl⟩ hi0 hi1
   simp
   cases q with
   | true =>
     exact SM
   | false =>
     simp;refine ae.cur (BY l hl t.length aa aa) hu ab rfl hi0 hi1 ab ?_
     rintro _ i2 h2 ⟨o,⟨ho,hp,-⟩,rfl⟩ g0 g1
     simp;intro Ho;refine dJ (.c _ 3) ⟨o,⟨aa,λp hq=>(hp p hq).any aa⟩,rfl⟩ ?_;exact mU
set_option maxHeartbeats 12800000
set_option maxHeartbeats 25600000
def ajL(p:Event->Prop)(rr:RR):Prop:=∃e:Event,p e/\rr=.one (.agg e.res)
def evP(e:Event):Prop:=lv e<=2^20/\Pn e.o<=12
theorem afs{fr:Int}:∀{o:List Part},(∀p∈o,pI fr p)->Pn o=pts o
 | [],_=>rfl
 | p :: o, h => by
   have ih:=afs (o:=o) (λq hq=>h q (aD _ hq));have hp:=h p (aN ..);unfold Pn at ih⊢;rw[aZ,l9,ih,pts]
   congr 1
   unfold ats;rcases hp with⟨h1,h2,h3⟩|⟨h1,h2,h3,h4⟩
   ·have k2:¬p.kind=2:=by omega
    rw[aj k2,aj k2]
    split
    ·exact Bh _
    ·exact No _
   ·rw[ai h1,ai h1,Bg,Av (.inr ⟨h1,h2,aa,h4⟩) h1]
theorem aeB{k w n:Int}:evP ⟨k,w,n,[]⟩:=⟨by simp[lv,nL,fX],by simp[Pn,aZ,gg]⟩
theorem abA:cg []:=by
 have h:=(lY (n:=0) ag ag).1.1;have e:dv 0=[]:=by unfold dv;rw[aj aa]
 rwa[e]at h
def evR(e:Event):Prop:=(1<=e.kind/\e.kind<=6)/\(0<=e.who/\e.who<=1000000000)/\(0<=e.n/\e.n<=1000000000)/\cg e.o/\(e.kind≠1->e.o=[])/\(e.kind≠5->e.n=0)
def evQ(n:Net)(e:Event):Prop:=evP e/\((∀r∈n.reps,fH r.buf<=188)->evR e)
theorem Bd{x:Net}{k w n:Int}(h1:2<=k/\k<=6)(h2:0<=w/\w<=1000000000)(h3:0<=n/\n<=1000000000)(h4:k≠5->n=0):evQ x ⟨k,w,n,[]⟩:=
 ⟨aeB,λ_=>⟨by show 1<=k/\k<=6;omega,h2,h3,abA,λ_=>rfl,h4⟩⟩
def NR(k:Nat)(n:Net):Prop:=NIn n/\tot n<=6+12*k/\ar n.d<=k/\∀r∈n.reps,r.seq<=k
theorem NR.ev{k:Nat}{n:Net}(h:NR k n){e:Event}(he:evP e):NR (k+1) (du n e).1:=by
 obtain⟨h1,h2,h3,h4⟩:=h;have:=he.2;rcases acr h1 e with⟨-,s⟩|⟨s,-⟩
 ·exact⟨s.inn,by have:=s.tot;omega,by have:=s.head;omega,s.seq k h4⟩
 ·rw[s];exact⟨h1,aa,aa,λr hr=>by have:=h4 r hr;omega⟩
theorem NR.le{k k':Nat}{n:Net}(h:NR k n)(hk:k<=k'):NR k' n:=⟨h.1,by have:=h.2.1;omega,by have:=h.2.2.1;omega,λr hr=>by have:=h.2.2.2 r hr;omega⟩
def NRB(k:Nat)(n:Net):Prop:=NR k n/\∀r∈n.reps,fH r.buf<=6+12*k
theorem NRB.ev{k:Nat}{n:Net}(h:NRB k n){e:Event}(he:evP e):NRB (k+1) (du n e).1:=by
 have h1:=h.1.ev he;refine⟨h1,λr hr=>?_⟩;rcases aao h.1.1 e hr with q|q|⟨x,q1,q2⟩
 ·have:=h.2 r q;omega
 ·have:=adv h1.1 hr q
  have:=h1.2.1;omega
 ·have:=h.2 x q1
  have:=he.2;omega
theorem NRB.le{k k':Nat}{n:Net}(h:NRB k n)(hk:k<=k'):NRB k' n:=⟨h.1.le hk,λr hr=>by have:=h.2 r hr;omega⟩
theorem Ra(l:List UInt8)(hl:l.length<=2^40)(n:Net)(hn:gS n):Cr Tryz.prog 81 (l.map ma) 49 [.agg n.row] (ajL (evQ n)):=by
 refine Cr.intro au Tryz.func49 ah rfl rfl rfl (ao rfl) (λw0 base o b u i h hi0 hi1 hu=>?_);have hi1:i<=(l.length:Int):=lD;have hnl:=hn.2.1;simp[Net.row];intro b3 b4;refine ae.cur (df l hl n.reps.length) hu ab rfl hi0 hi1 ab ?_
 rintro _ i1 h1 ⟨who,hwho,rfl⟩ g0 g1
 have hw1:=hwho.1;have hw2:who<n.reps.length:=hwho.2.2 aa;obtain⟨k,rfl⟩:∃k:Nat,who=k:=⟨who.toNat,aa⟩;have hk:k<n.reps.length:=aa;obtain⟨r,hr⟩:∃r,n.reps[k]=r:=⟨_,rfl⟩;have hrok:=(hn.2.2 k hk).1;rw[hr]at hrok;have hbuf:=sx hrok.2.2.2.2.2.1.1;have hpos:=pN hrok.2.2.2.2.2.1.1;have hto:=hrok.2.2.2.2.2.1.1.2.2;simp;refine ae.cur (df l hl 14) hu ab rfl g0 g1 ab ?_
 rintro _ i2 h2 ⟨z,hz,rfl⟩ g0 g1
 simp;by_cases z0:z=0
 ·simp[z0]
  exact L3
 by_cases z1:z=1
 ·simp[z1]
  exact L3
 by_cases z2:z=2
 ·simp[z2]
  exact L3
 by_cases z3:z=3
 ·simp[z3]
  refine⟨_,⟨(⟨3,k,0,[]⟩:Event),(Bd ag aa aa aa),rfl⟩,?_,cU rfl g0 g1⟩;simp[Event.res]
 by_cases z4:z=4
 ·simp[z4]
  refine⟨_,⟨(⟨4,k,0,[]⟩:Event),(Bd ag aa aa aa),rfl⟩,?_,cU rfl g0 g1⟩;simp[Event.res]
 by_cases z5:z=5
 ·simp[z5]
  exact EZ
 by_cases z6:z=6
 ·simp[z6]
  exact EZ
 by_cases z7:z=7
 ·simp[z7]
  exact EZ
 by_cases z8:z=8
 ·simp[z8]
  exact EZ
 by_cases z9:z=9
 ·simp[z9]
  refine ae.cur (nB l hl 3) hu ab rfl g0 g1 ab ?_
  rintro _ i3 h3 ⟨qq,rfl⟩ g0 g1
  cases qq with
  | true =>
    simp;refine⟨_,⟨(⟨6,k,0,[]⟩:Event),(Bd ag aa aa aa),rfl⟩,?_,cU rfl g0 g1⟩;simp[Event.res]
  | false =>
    simp[hk,hr,Rep.row];exact W2
 simp[z0,z1,z2,z3,z4,z5,z6,z7,z8,z9,hk,hr,Rep.row];exact W2
set_option maxHeartbeats 51200000
def ami(p:Call->Prop)(rr:RR):Prop:=∃c:Call,p c/\rr=.one (.agg c.res)
def XY(c:Call):Prop:=kC c<=2^21
def dP(d:Doc):Prop:=eW d<=2^30/\(0<=d.fr/\d.fr<=999999000)/\∀c,0<=(cz d c).1.seq/\(cz d c).1.seq<=1000000000
theorem afB{d:Doc}(h:bS d):dP d:=⟨cG (pr h) ag,by have:=bM h;omega,λc=>by have:=tj h c;omega⟩
theorem Nk:dP Doc.zero:=⟨by have h0:(⟨#[]⟩:ByteArray).size=0:=rfl;simp[eW,Doc.zero,nL,fX,h0],by simp[Doc.zero],λc=>by simp[cz,Doc.zero]⟩
theorem oi{k cl sq n:Int}{s:ByteArray}{o:List Part}{t:List Int}(hs:s.size<=8)(ho:nL aY o<=2^20)(ht:t.length<=1000):XY ⟨k,s,cl,sq,n,o,t⟩:=by unfold XY kC;simp only;omega
theorem JL{o:List Part}(h:o.length<=44)(hp:∀p∈o,Ay p):nL aY o<=2^20:=by
 have:=AI (f:=aY) (l:=o) (B:=4) (λp hq=>by have:=hp p hq;unfold Ay at this;unfold aY;omega);omega
theorem Y9(l:List UInt8)(hl:l.length<=2^40)(a:Hub)(ok:bq a):Cr Tryz.prog 81 (l.map ma) 51 [.agg a.row] (ami XY):=by
 refine Cr.intro au Tryz.func51 ah rfl rfl rfl (ao rfl) (λw0 base o b u i h hi0 hi1 hu=>?_);have hi1:i<=(l.length:Int):=lD;have hn:gE a<=2^28:=cG (sd ok).1 ag;simp[Hub.row];intro b3 b4;refine kU (xP l hl).toN hu ab rfl hi0 hi1 ab ?_
 rintro _ i1 h1 ⟨s,hs,rfl⟩ g0 g1
 have hsz:s.size<=8:=hs.1.2;by_cases e0:a.docs=[]
 case' pos=>
  have e1:a.docs.length=0:=by rw[e0];rfl
  simp[e0]
  have e:dm a.docs s = -1:=by
   rcases ee a.docs s with⟨k,hk,-,-⟩|e
   ·omega
   ·exact e
  refine ae.pure (ie a aa s) (by simp[Hub.row,e0]) ?_;rw[e];simp;intro b7;obtain⟨d,hdz⟩:∃d,d=Doc.zero:=⟨_,rfl⟩;have dp:dP d:=hdz ▸ Nk
  clear e
  generalize s=s2 at hsz⊢
 case' neg=>
  have hpos:0<a.docs.length:=ca.2 e0;simp[hpos];refine ae.cur (nB l hl 6) hu ab rfl g0 g1 ab ?_
  rintro _ i2 h2 ⟨qq,rfl⟩ g0 g1
  cases qq
  case' true=>
   simp;refine ae.pure (ie a aa s) cM ?_;simp;intro b7;rcases ee a.docs s with⟨k,hk,e,-⟩|e
   case' inl=>
    obtain⟨d,hd⟩:∃d,a.docs[k]=d:=⟨_,rfl⟩;have dp:dP d:=afB (hd ▸ gO ok hk);simp[e,hk,hd,Doc.row]
   case' inr=>
    obtain⟨d,hdz⟩:∃d,d=Doc.zero:=⟨_,rfl⟩;have dp:dP d:=hdz ▸ Nk;simp[e]
   all_goals
    clear e
    generalize s=s2 at hsz⊢
  case' false=>
   simp;refine drw eok mix [0,1,2,3,4,5] [6,7,8,9,10] (.c 6 6 9 54 (.c 6 7 16 38 (.c 6 8 0 38 (.c 6 9 0 38 (.c 6 10 38 0 (.l 6 0) .s) .s) .s) .s) .s) ?_;simp
   try intros
   refine ae.cur (df l hl a.docs.length) hu ab rfl g0 g1 ab ?_;rintro _ i3 h3 ⟨kk,hkk,rfl⟩ g0 g1;obtain⟨k,rfl⟩:∃k:Nat,kk=(k:Int):=⟨kk.toNat,by have:=hkk.1;omega⟩;have hk:k<a.docs.length:=(by have:=hkk.2.2 aa;omega);obtain⟨d0,hd0⟩:∃d,a.docs[k]=d:=⟨_,rfl⟩;simp[hk,hd0,Doc.row]
   try intros
   have hsz:d0.name.size<=8:=(hd0 ▸ gO ok hk).1.1.2;refine ae.pure (ie a aa d0.name) cM ?_;simp;intro b7;rcases ee a.docs d0.name with⟨k,hk,e,-⟩|e
   case' inl=>
    obtain⟨d,hd⟩:∃d,a.docs[k]=d:=⟨_,rfl⟩;have dp:dP d:=afB (hd ▸ gO ok hk);simp[e,hk,hd,Doc.row]
   case' inr=>
    obtain⟨d,hdz⟩:∃d,d=Doc.zero:=⟨_,rfl⟩;have dp:dP d:=hdz ▸ Nk;simp[e]
   all_goals
    clear e
    generalize d0.name=s2 at hsz⊢
 all_goals
  refine ae.cur (df l hl 14) hu ab rfl g0 g1 ab ?_
  rintro _ i3 h3 ⟨z,hz,rfl⟩ g0 g1
  simp;by_cases z0:z=0
  ·simp[z0]
   refine kU (xP l hl).toN hu ab rfl g0 g1 ab ?_
   rintro _ i4 h4 ⟨s2,hs2,rfl⟩ g0 g1
   simp;refine kU (GL l hl 4 aa aa).toN hu ab rfl g0 g1 ab ?_
   rintro _ i5 h5 ⟨t,ht,rfl⟩ g0 g1
   simp;refine⟨_,⟨(⟨1,s2,0,0,0,[],t⟩:Call),oi (by have:=hs2.1;omega) rT (by have:=ht.1;omega),rfl⟩,?_,cU rfl g0 g1⟩;simp[Call.res]
  by_cases z1:z=1
  ·simp[z1]
   refine ae.cur (BX l hl d xd (by have:=dp.2.1;omega)) hu ab rfl g0 g1 xc ?_
   rintro _ i4 h4 ⟨bs,-,rfl⟩ g0 g1
   simp;refine⟨_,⟨(⟨3,s2,0,0,bs,[],[]⟩:Call),oi hsz rT ab,rfl⟩,?_,cU rfl g0 g1⟩;simp[Call.res]
  by_cases z2:z=2
  ·simp[z2]
   refine⟨_,⟨(⟨4,s2,0,0,0,[],[]⟩:Call),oi hsz rT ab,rfl⟩,?_,cU rfl g0 g1⟩;simp[Call.res]
  by_cases z3:z=3
  ·simp[z3]
   refine ae.cur (df l hl 3) hu ab rfl g0 g1 ab ?_
   rintro _ i5 h5 ⟨y,hy,rfl⟩ g0 g1
   have wy:=al (1+y) (by have:=hy.1;have:=hy.2.2 aa;omega);simp[wy];refine⟨_,⟨(⟨5,s2,0,0,1+y,[],[]⟩:Call),oi hsz rT ab,rfl⟩,?_,cU rfl g0 g1⟩;simp[Call.res]
  by_cases z4:z=4\/z=5
  ·have z4':dc (z=4)=true\/(dc (z=4)=false/\dc (z=5)=true):=by
    rcases z4 with e|e
    ·left;rw[sW];exact e
    ·right;rw[e8,sW];exact⟨aa,e⟩
   rcases z4 with e|e
   ·exact WW
   ·exact WW
  by_cases z6:z=6
  ·simp[z6]
   refine ae.cur (df l hl 3) hu ab rfl g0 g1 ab ?_
   rintro _ i5 h5 ⟨y,hy,rfl⟩ g0 g1
   have wy:=al (1+y) (by have:=hy.1;have:=hy.2.2 aa;omega);simp[wy];refine⟨_,⟨(⟨7,⟨#[]⟩,1+y,0,0,[],[]⟩:Call),oi ag rT ab,rfl⟩,?_,cU rfl g0 g1⟩;simp[Call.res]
  have z4a:¬z=4:=λe=>z4 (.inl e)
  have z5a:¬z=5:=λe=>z4 (.inr e)
  by_cases z7:z=7
  case' pos=>
   simp[z7];refine ae.cur (nB l hl 4) hu ab rfl g0 g1 ab ?_
   rintro _ i5 h5 ⟨sh,rfl⟩ g0 g1
   cases sh
   case' true=>
    simp;refine⟨_,⟨(⟨8,⟨#[]⟩,0,0,0,[],[]⟩:Call),oi ag rT ab,rfl⟩,?_,cU rfl g0 g1⟩;simp[Call.res]
   case' false=>simp
  case' neg=>simp[z0,z1,z2,z3,z4a,z5a,z6,z7]
  all_goals
   refine ae.cur (df l hl 3) hu ab rfl g0 g1 ab ?_
   rintro _ i5 h5 ⟨y,hy,rfl⟩ g0 g1
   have hy1:=hy.1;have hy2:=hy.2.2 aa;have wy:=al (1+y) aa;simp[wy];have hsb:=dp.2.2 (1+y);have hsc:=nW d xd (1+y);generalize cz d (1+y)=q at hsb hsc;obtain⟨sn,sb⟩:=q;simp only at hsb hsc;refine ae.ro hsc xc ?_;simp[Seen.res];intro b9;have wsq:=al (sn.seq+1) aa;simp[wsq];refine ae.cur (nB l hl 8) hu ab rfl g0 g1 ab ?_
   rintro _ i6 h6 ⟨qq,rfl⟩ g0 g1
   cases qq with
   | false =>
     simp;refine ae.cur (BX l hl d xd (by have:=dp.2.1;omega)) hu ab rfl g0 g1 xc ?_
     rintro _ i7 h7 ⟨bs,-,rfl⟩ g0 g1
     simp;refine kU (XJ l hl d xd bs).toN hu ab rfl g0 g1 xc ?_
     rintro _ i8 h8 ⟨op,⟨hol,hop⟩,rfl⟩ g0 g1
     simp;refine⟨_,⟨(⟨2,s2,1+y,sn.seq+1,bs,op,[]⟩:Call),oi hsz (JL hol hop) ab,rfl⟩,?_,cU rfl g0 g1⟩;simp[Call.res]
   | true =>
     simp;refine ae.cur (df l hl 2) hu ab rfl g0 g1 ab ?_
     rintro _ i9 h9 ⟨y2,hz2,rfl⟩ g0 g1
     have hz1:=hz2.1;have hz3:=hz2.2.2 aa;have wy2:=al (1+y2) aa;simp[wy2];refine ae.cur (BX l hl d xd (by have:=dp.2.1;omega)) hu ab rfl g0 g1 xc ?_
     rintro _ i7 h7 ⟨bs,-,rfl⟩ g0 g1
     simp;refine kU (XJ l hl d xd bs).toN hu ab rfl g0 g1 xc ?_
     rintro _ i8 h8 ⟨op,⟨hol,hop⟩,rfl⟩ g0 g1
     simp;refine⟨_,⟨(⟨2,s2,1+y,1+y2,bs,op,[]⟩:Call),oi hsz (JL hol hop) ab,rfl⟩,?_,cU rfl g0 g1⟩;simp[Call.res]
end Go.Proofs.YtmccaifipoohfaaGreatDoor
