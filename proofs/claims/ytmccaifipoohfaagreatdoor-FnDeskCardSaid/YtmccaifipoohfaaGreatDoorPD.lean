import Derived.Test.YtmccaifipoohfaaGreatDoorPC
import Derived.Test.YtmccaifipoohfaaGreatDoorPB
import Derived.Test.YtmccaifipoohfaaGreatDoorNA
import Derived.Test.YtmccaifipoohfaaGreatDoorMF
import Derived.Test.YtmccaifipoohfaaGreatDoorPA
namespace Go.Proofs.YtmccaifipoohfaaGreatDoor
open Go.AM
set_option maxRecDepth 20000
set_option maxHeartbeats 1600000
noncomputable def gr:Rep->List Entry->Option Rep
 |r,[]=>some r
 |r,e::l=>if(eh r e).2=true then gr (eh r e).1 l else none
open Classical in
noncomputable def ga(r:Rep)(l:List Entry):Rep×Bool:=
 if cm r then match gr r l with
  |some x=>(x,true)
  |none=>(Rep.zero,false)
 else(Rep.zero,false)
theorem wH{r:Rep}{e:Entry}(h:(eh r e).2=true):cm r/\cm (eh r e).1:=by
 have key:∀x:Rep,(mD x).2=true->cm (mD x).1:=by
  intro x hx;by_cases hr:cm x
  ·rw[ka hr];exact hr
  ·rw[pG hr]at hx;simp at hx
 unfold eh at h⊢
 split
 ·rename_i h1
  rw[ai h1]at h;refine⟨h1.1,?_⟩
  split
  ·rename_i h2
   rw[ai h2]at h;exact Ul
  ·rename_i h2
   rw[aj h2]at h;exact Ul
 ·rename_i h1
  rw[aj h1]at h;simp at h
theorem y3:∀(l:List Entry) (r x:Rep),gr r l=some x->l=[]/\x=r\/cm r/\cm x
 | [],r,x,h=>by simp[gr]at h;exact .inl ⟨rfl,h.symm⟩
 | e :: l, r, x, h => by
   unfold gr at h
   split at h
   ·rename_i h1
    have h2:=wH h1;rcases y3 l _ x h with⟨-,rfl⟩|⟨-,h3⟩
    ·exact .inr h2
    ·exact .inr ⟨h2.1,h3⟩
   ·simp at h
theorem r9{r:Rep}(h:cm r):dX r<=2^20:=by
 have h1:=sx h.2.2.2.2.1.1;have h2:=sx h.2.2.2.2.2.1.1;have h3:=h.2.2.2.1.1;unfold dX;omega
theorem Zm(r:Rep)(l:List Entry):dX (ga r l).1<=2^20:=by
 unfold ga
 split
 ·rename_i h
  split
  ·rename_i x hx
   rcases y3 l r x hx with⟨-,rfl⟩|⟨-,h2⟩
   ·exact r9 h
   ·exact r9 h2
  ·exact nV
 ·exact nV
theorem zW{l:List Entry}{i:Nat}{u:Rep}(h:i<l.length):gr u (l.drop i)=if(eh u l[i]).2=true then gr (eh u l[i]).1 (l.drop (i+1))else none:=by
 rw[bj h,gr]
theorem CE{l:List Entry}{i:Nat}{u:Rep}(h:l.length<=i):gr u (l.drop i)=some u:=by
 rw[bK h,gr]
theorem MY(r:Rep)(hl:dX r<=2^28)(l:List Entry)(hx:nL cN l<=2^40):aH Tryz.prog 178 [.agg r.row,.c (.s (l.map Entry.row))] (.tup [.agg (ga r l).1.res,.c (.v (.bool (ga r l).2)) 1]):=by
 refine pci au Tryz.func178 (λw0 base=>?_);have hle:=cT hx;simp[Rep.row];intro b2 b4;refine ae.pure (gI r aa) ep ?_;by_cases c1:cm r
 rotate_left
 ·have e:ga r l=(Rep.zero,false):=by unfold ga;rw[aj c1]
  simp[aK c1,e,Rep.res,Rep.zero]
 have hf:ga r l=match gr r l with
  |some x=>(x,true)
  |none=>(Rep.zero,false):=by unfold ga;rw[ai c1]
 simp[c1];refine ae.pure (tN r aa) ep ?_;simp[Rep.res];intro H3 H5 H6 b6
 refine aF eok (λx:(Nat×Rep×Nat)×Hd×Hd×Hd=>(x.1.2.2=256\/x.1.2.2=416)/\(x.1.1<=l.length/\gr x.1.2.1 (l.drop x.1.1)=gr r l)/\dX x.1.2.1<=2^28) (λx=>⟨35,0,[(19,.v (.int .i64 x.1.1)),(18,.v (.int .i64 l.length)),(17,.ro (l.map Entry.row)),(4,.p 64 b4 0),(6,.p 96 b6 0)],
  [(96, .vars b6 76 [.v (.int .i64 x.1.2.1.client), .v (.int .i64 x.1.2.1.seq), .v (.int .i64 x.1.2.1.rev), .sl (x.1.2.2+3) x.2.1 1 0 x.1.2.1.text.length, .v (.bool x.1.2.1.has), .sl (x.1.2.2+5) x.2.2.1 3 0 x.1.2.1.sent.length, .sl (x.1.2.2+6) x.2.2.2 3 0 x.1.2.1.buf.length]),
   (64,.vars b4 76 [.v (.int .i64 0),.v (.int .i64 0),.v (.int .i64 0),.nil,.v (.bool false),.nil,.nil]),
   (x.1.2.2+3,.rows x.2.1 1 (x.1.2.1.text.map aX) true),(x.1.2.2+5,.rows x.2.2.1 3 (x.1.2.1.sent.map Part.row) true),(x.1.2.2+6,.rows x.2.2.2 3 (x.1.2.1.buf.map Part.row) true)]⟩) (λx=>l.length-x.1.1) ((0,r,256),H3,H5,H6) aJ ab (λx hx=>Ent.refl ?_)
 obtain⟨⟨i,u,k⟩,G3,G5,G6⟩:=x;obtain⟨hk,⟨hi,hu⟩,hn⟩:=hx;simp only at hk hi hu hn⊢;by_cases hlt:i<l.length
 ·have hm:=iN hx hlt
  rw[zW hlt]at hu;have hn2:=G9 u l[i];have hok:=wH (r:=u) (e:=l[i]);rcases hk with rfl|rfl
  all_goals
   simp[hlt,Entry.row];intro b8;refine ae.pure (IU u hn l[i] hm) (by simp[Rep.row,Entry.row]) ?_;generalize eh u l[i]=T at hu hn2 hok⊢;obtain⟨v,ok⟩:=T;simp only at hu hn2 hok⊢;simp[Rep.res];intro K3 K5 K6 b9
   cases ok with
   | false =>
     simp only[mJ,dO]at hu;rw[<-hu]at hf;simp only at hf;simp[hf,Rep.zero]
   | true =>
     simp only[dF]at hu;have hv:=r9 (hok rfl).2;simp;refine Ent.refl ⟨i+1,v,416,⟨.inr rfl,⟨aa,hu⟩,aa⟩,aa,K3,K5,K6,?_⟩;exact pf
 ·rw[CE aa]at hu
  rw[<-hu]at hf;simp only at hf;rcases hk with rfl|rfl
  all_goals
   simp[hlt];simp[hf]
theorem Ab(r:Rep)(hl:dX r<=2^28)(l:List Entry)(hx:nL cN l<=2^40):aH Tryz.prog 222 [.agg r.row,.c (.s (l.map Entry.row))] (.tup [.agg (ga r l).1.res,.c (.v (.bool (ga r l).2)) 1]):=by
 refine pci au Tryz.func222 (λw0 base=>?_);have hle:=cT hx
 have hno:gr r l=none->ga r l=(Rep.zero,false):=by
  intro h;unfold ga;rw[h]
  split<;>rfl
 have hyes:∀u,gr r l=some u->ga r l=mD u:=by
  intro u h;unfold ga;rw[h];rcases y3 l r u h with⟨-,rfl⟩|⟨h1,h2⟩
  ·rfl
  ·rw[ai h1,ka h2]
 simp[Rep.row];intro b2 b4;refine ae.pure (tw r aa) ep ?_;simp[Rep.res];intro H3 H5 H6 b6
 refine aF eok (λx:(Nat×Rep×Nat)×Hd×Hd×Hd=>(x.1.2.2=192\/x.1.2.2=352)/\(x.1.1<=l.length/\gr x.1.2.1 (l.drop x.1.1)=gr r l)/\dX x.1.2.1<=2^28) (λx=>⟨34,0,[(15,.v (.int .i64 x.1.1)),(14,.v (.int .i64 l.length)),(13,.ro (l.map Entry.row)),(4,.p 64 b4 0),(6,.p 96 b6 0)],
  [(96, .vars b6 76 [.v (.int .i64 x.1.2.1.client), .v (.int .i64 x.1.2.1.seq), .v (.int .i64 x.1.2.1.rev), .sl (x.1.2.2+3) x.2.1 1 0 x.1.2.1.text.length, .v (.bool x.1.2.1.has), .sl (x.1.2.2+5) x.2.2.1 3 0 x.1.2.1.sent.length, .sl (x.1.2.2+6) x.2.2.2 3 0 x.1.2.1.buf.length]),
   (64,.vars b4 76 [.v (.int .i64 0),.v (.int .i64 0),.v (.int .i64 0),.nil,.v (.bool false),.nil,.nil]),
   (x.1.2.2+3,.rows x.2.1 1 (x.1.2.1.text.map aX) true),(x.1.2.2+5,.rows x.2.2.1 3 (x.1.2.1.sent.map Part.row) true),(x.1.2.2+6,.rows x.2.2.2 3 (x.1.2.1.buf.map Part.row) true)]⟩) (λx=>l.length-x.1.1) ((0,r,192),H3,H5,H6) aJ ab (λx hx=>Ent.refl ?_)
 obtain⟨⟨i,u,k⟩,G3,G5,G6⟩:=x;obtain⟨hk,⟨hi,hu⟩,hn⟩:=hx;simp only at hk hi hu hn⊢;by_cases hlt:i<l.length
 ·have hm:=iN hx hlt
  rw[zW hlt]at hu;have hn2:=G9 u l[i];have hok:=wH (r:=u) (e:=l[i]);rcases hk with rfl|rfl
  all_goals
   simp[hlt,Entry.row];intro b8;refine ae.pure (Ix u hn l[i] hm) (by simp[Rep.row,Entry.row]) ?_;generalize eh u l[i]=T at hu hn2 hok⊢;obtain⟨v,ok⟩:=T;simp only at hu hn2 hok⊢;simp[Rep.res];intro K3 K5 K6 b9
   cases ok with
   | false =>
     simp only[mJ,dO]at hu;have hf:=hno hu.symm;simp[hf,Rep.zero]
   | true =>
     simp only[dF]at hu;have hv:=r9 (hok rfl).2;simp;refine Ent.refl ⟨i+1,v,352,⟨.inr rfl,⟨aa,hu⟩,aa⟩,aa,K3,K5,K6,?_⟩;exact pf
 ·rw[CE aa]at hu
  rcases hk with rfl|rfl
  all_goals
   simp[hlt];refine inl au Tryz.func196 20000 (λw1 F=>?_);simp;intros;refine ae.pure (gH u aa) ep ?_;have hf:=hyes u hu.symm;by_cases h:cm u
   ·rw[ka h]at hf
    simp[h,hf]
   ·rw[pG h]at hf
    simp[aK h,hf,Rep.zero]
open Classical in
noncomputable def dY(r:Rep):Call×Bool:=if cm r/\r.has=true then(j8 r,true)else(Call.zero,false)
theorem DH(r:Rep)(hl:dX r<=2^20):aH Tryz.prog 78 [.agg r.row] (.tup [.agg (dY r).1.res,.c (.v (.bool (dY r).2)) 1]):=by
 refine pci au Tryz.func78 (λw0 base=>?_);simp[Rep.row];intros;refine ae.pure (gI r aa) ep ?_;by_cases c1:cm r
 rotate_left
 ·exact VY
 simp[c1]
 cases ch:r.has
 ·exact Vt
 ·have e:dY r=(j8 r,true):=by unfold dY;rw[ai ⟨c1,ch⟩]
  simp;refine ae.pure (FO r aa) (by simp[Rep.row,ch]) ?_;simp[e,Call.res,j8]
theorem DA(r:Rep)(hl:dX r<=2^20):aH Tryz.prog 128 [.agg r.row] (.tup [.agg (dY r).1.res,.c (.v (.bool (dY r).2)) 1]):=by
 refine pci au Tryz.func128 (λw0 base=>?_);simp[Rep.row];intros;refine ae.pure (gH r aa) ep ?_;by_cases c1:cm r
 rotate_left
 ·exact VY
 simp[c1]
 cases ch:r.has
 ·exact Vt
 ·have e:dY r=(j8 r,true):=by unfold dY;rw[ai ⟨c1,ch⟩]
  simp;refine ae.pure (J3 r aa) (by simp[Rep.row,ch]) ?_;simp[e,Call.res,j8]
def abK(s:ByteArray)(i:Nat):Prop:=∀h:i<s.size,97<=s[i].toNat/\s[i].toNat<=122
theorem fq{d:Doc}{B:Nat}(h:eW d<=B):nL cN d.list<=B/\d.text.length<=B/\d.name.size<=B/\d.seen.length<=B:=by unfold eW at h;omega
def BO(d:Doc)(i:Nat):Prop:=∀h:i<d.seen.length,(1<=d.seen[i].client/\d.seen[i].client<=8)/\(1<=d.seen[i].seq/\d.seen[i].seq<=1000000000)/\(1<=d.seen[i].rev/\d.seen[i].rev<=ar d)/\(∀h0:0<i,d.seen[i-1].client<d.seen[i].client)
theorem I8{l:List (List Part)}{t:List Int}(h:eD t):(eA l t).2=true↔(ba l t).isSome=true:=by
 unfold eA;rw[ai h]
 cases ba l t<;>simp
theorem bM{d:Doc}(h:bS d):ar d=d.fr+d.list.length/\0<=d.fr/\d.fr<=999999000/\d.list.length<=8:=by
 have h1:=h.2.1;have h2:=h.2.2.2.1;refine⟨?_,h1.1,h1.2,h2⟩;unfold ar;rw[al _ aa]
theorem xb{d:Doc}{rev:Int}(h:¬(bS d/\d.fr<=rev/\rev<=ar d)):dj d rev=([],false):=by unfold dj;rw[aj h]
theorem q8{d:Doc}{rev:Int}(h:bS d/\d.fr<=rev/\rev<=ar d):dj d rev=eA ((d.list.take (rev-d.fr).toNat).map Entry.o) d.text:=by unfold dj;rw[ai h]
theorem Cd{d:Doc}(n1:nL cN d.list<=2^30){o:List Part}{l:List Entry}(hl:∀e∈l,e∈d.list)(ho:o∈l.map Entry.o):nL aY o<=2^30:=by
 rw[cH]at ho;obtain⟨e,he,rfl⟩:=ho;have:=iG n1 (hl e he);unfold cN at this;omega
theorem Jp{α:Type}{f:α->Nat}:∀(l:List α) (k:Nat),fX f (l.take k)<=fX f l
 | [],k=>by simp[fX]
 |a::l,0=>by simp[fX]
 |a::l,k+1=>by have:=Jp l k (f:=f);simp only[jJ,fX];omega
theorem xK{α:Type}{f:α->Nat}{l:List α}{k B:Nat}(h:nL f l<=B):nL f (l.take k)<=B:=by
 have:=Jp l k (f:=f);unfold nL at h⊢;simp;omega
theorem wW:∀(l:List (List Part)) (t:List Int) (k:Nat),(ba l t).isSome=true->(ba (l.take k) t).isSome=true
 | [],_,_,h=>nS
 |o::l,t,0,h=>by simp[ba]
 | o :: l, t, k + 1, h => by
   rw[ba]at h;rw[jJ,ba]
   split at h
   ·rename_i hh;rw[ai hh];exact wW l _ k h
   ·simp at h
theorem P0{l:List (List Part)}{t u:List Int}(ht:eD t)(h:ba l t=some u):eA l t=(u,true):=by
 unfold eA;rw[ai ht,h]
theorem uB(d:Doc)(c:Int):(∃i,∃h:i<d.seen.length,d.seen[i].client=c/\(∀j,j<i->∀hj:j<d.seen.length,d.seen[j].client≠c)/\cz d c=(d.seen[i],true))\/((∀j,∀hj:j<d.seen.length,d.seen[j].client≠c)/\cz d c=(⟨0,0,0⟩,false)):=by
 unfold cz
 cases h:d.seen.find? (λs=>decide (s.client=c))with
 | none =>
   right
   rw[List.find?_eq_none]at h;exact⟨λj hj=>by have:=h _ (ak hj);simpa using this,rfl⟩
 | some s =>
   left
   rw[List.find?_eq_some_iff_getElem]at h;obtain⟨h1,i,hi,h2,h3⟩:=h;refine⟨i,hi,by rw[h2];simpa using h1,λj hj hjl=>by have:=h3 j hj;simpa using this,by rw[h2]⟩
theorem tj{d:Doc}(h:bS d)(c:Int):0<=(cz d c).1.seq/\(cz d c).1.seq<=1000000000/\0<=(cz d c).1.rev/\(cz d c).1.rev<=ar d:=by
 have hh:=bM h;rcases uB d c with⟨i,hi,-,-,e⟩|⟨-,e⟩
 ·rw[e]
  have:=h.2.2.2.2.2.2 i hi;exact gM
 ·rw[e]
  exact gM
def jB(r:Rep)(s:Seen):Prop:=if r.seq=s.seq then ¬(r.has=true/\s.rev<=r.rev)else r.has=true/\r.seq=s.seq+1
def ke(d:Doc)(i:Nat)(r:Rep):Prop:=cm r/\r.client=i+1/\r.rev<=ar d/\((dj d r.rev).2=true->(dj d r.rev).1=r.text)/\jB r (cz d r.client).1
def gS(n:Net):Prop:=bS n.d/\(1<=n.reps.length/\n.reps.length<=4)/\∀i,∀h:i<n.reps.length,ke n.d i n.reps[i]
theorem lM(d:Doc)(rev:Int):(dj d rev).1.length<=2^30:=by
 by_cases h:bS d/\d.fr<=rev/\rev<=ar d
 ·rw[q8 h]
  unfold eA
  split
  ·split
   ·rename_i u hu
    have key:∀(l:List (List Part)) (t:List Int),t.length<=2^30->∀u,ba l t=some u->u.length<=2^30:=by
     intro l
     induction l with
     |nil=>intro t ht u hu;simp[ba]at hu;subst hu;exact ht
     | cons o l ih =>
       intro t ht u hu;rw[ba]at hu
       split at hu
       ·exact ih _ (by have:=mB o t;omega) u hu
       ·simp at hu
    exact key _ _ (by have:=h.1.2.2.1.1;omega) _ hu
   ·simp
  ·simp
 ·rw[xb h];simp
def Doc.zero:Doc:=⟨⟨#[]⟩,0,[],[],[]⟩
def Net.zero:Net:=⟨Doc.zero,[]⟩
theorem Doc.zero_n:eW Doc.zero=0:=rfl
theorem Net.zero_n:gT Net.zero=0:=rfl
def gF(name:ByteArray)(t:List Int):Doc:=⟨name,0,t,[],[]⟩
open Classical in
noncomputable def gz(name:ByteArray)(t:List Int):Doc×Bool:=if bS (gF name t)then(gF name t,true)else(Doc.zero,false)
theorem RK(name:ByteArray)(t:List Int):eW (gF name t)=name.size+t.length:=by simp[eW,gF,nL,fX]
noncomputable def jh(t:List Int)(k:Nat):List Rep:=(List.range k).map λi:Nat=>(eZ ((i:Int)+1) 0 0 t).1
open Classical in
noncomputable def fg(name:ByteArray)(t:List Int)(many:Int):Net×Bool:=if(gz name t).2=true/\1<=many/\many<=4 then(⟨(gz name t).1,jh t many.toNat⟩,true)else(Net.zero,false)
theorem wh(t:List Int)(i:Nat):jh t (i+1)=jh t i++[(eZ ((i:Int)+1) 0 0 t).1]:=by simp[jh,List.range_succ]
theorem ny(t:List Int)(i:Nat):(jh t i).length=i:=by simp[jh]
theorem u3{name:ByteArray}{t:List Int}{many:Int}(h:¬((gz name t).2=true/\1<=many/\many<=4)):fg name t many=(Net.zero,false):=by unfold fg;rw[aj h]
theorem si{name:ByteArray}{t:List Int}{many:Int}(h:(gz name t).2=true/\1<=many/\many<=4):fg name t many=(⟨(gz name t).1,jh t many.toNat⟩,true):=by unfold fg;rw[ai h]
theorem Ki(a b c:Int)(t:List Int):dX (eZ a b c t).1<=t.length+2:=by
 unfold eZ;exact E6 (BR a b c t)
theorem JS(t:List Int):∀k:Nat,nL dX (jh t k)<=k*(t.length+3)
 |0=>by simp[jh,nL,fX]
 | k + 1 => by
   have ih:=JS t k;have h:=Ki ((k:Int)+1) 0 0 t;rw[wh];unfold nL at ih⊢;rw[lN,cP];simp only[fX,bu,eN];have:(k+1)*(t.length+3)=k*(t.length+3)+(t.length+3):=di _ _;omega
def qD(n:Net):Prop:=∀r∈n.reps,iM r/\r.rev=ar n.d
theorem dn(d:Doc):aH Tryz.prog 131 [.agg d.row] (.one (.c (vi (ar d)) 1)):=by
 refine pci au Tryz.func131 (λw0 base=>?_);simp[Doc.row,ar]
theorem IB(n:Net)(hl:gT n<=2^40):aH Tryz.prog 134 [.agg n.row] (.one (.c (vb (qD n)) 1)):=by
 refine pci au Tryz.func134 (λw0 base=>?_);obtain⟨d,l⟩:=n;unfold gT at hl;simp only at hl;have hle:=cT (f:=dX) (B:=2^40) (l:=l) aa;simp[Net.row];intro b1
 refine bk.intro eok (λi:Nat=>i<=l.length/\∀r∈l.take i,iM r/\r.rev=ar d) (λi=>⟨24,0,[(1,.p 16 b1 0),(8,.v (.int .i64 i)),(7,.v (.int .i64 l.length)),(6,.ro (l.map Rep.row))],
  [(16,.vars b1 36 [.v (.string d.name),.v (.int .i64 d.fr),.ro (d.text.map aX),.ro (d.list.map Entry.row),.ro (d.seen.map Seen.row),.ro (l.map Rep.row)])]⟩) (λi=>l.length-i) 0 ab ab (λi hi=>?_)
 by_cases hlt:i<l.length
 ·have hm:=iG (f:=dX) (B:=2^40) (l:=l) aa (ak hlt)
  have hne:∀h:¬(iM l[i]/\l[i].rev=ar d),¬qD ⟨d,l⟩:=λh hn=>h (hn l[i] (ak hlt))
  simp[hlt,Rep.row];intro b4;refine cF.quiet eok mix ah ?_;simp;refine⟨_,_,FW l[i] hm,ep,?_⟩;by_cases c1:iM l[i]
  ·simp[c1]
   refine⟨_,_,dn d,aV,?_⟩;exact WI
  ·exact VO
 ·exact UP
theorem dz(d:Doc):aH Tryz.prog 81 [.agg d.row] (.one (.c (vi (ar d)) 1)):=by
 refine pci au Tryz.func81 (λw0 base=>?_);simp[Doc.row,ar]
theorem IW(n:Net)(hl:gT n<=2^40):aH Tryz.prog 95 [.agg n.row] (.one (.c (vb (qD n)) 1)):=by
 refine pci au Tryz.func95 (λw0 base=>?_);obtain⟨d,l⟩:=n;unfold gT at hl;simp only at hl;have hle:=cT (f:=dX) (B:=2^40) (l:=l) aa;simp[Net.row];intro b1
 refine bk.intro eok (λi:Nat=>i<=l.length/\∀r∈l.take i,iM r/\r.rev=ar d) (λi=>⟨24,0,[(1,.p 16 b1 0),(8,.v (.int .i64 i)),(7,.v (.int .i64 l.length)),(6,.ro (l.map Rep.row))],
  [(16,.vars b1 36 [.v (.string d.name),.v (.int .i64 d.fr),.ro (d.text.map aX),.ro (d.list.map Entry.row),.ro (d.seen.map Seen.row),.ro (l.map Rep.row)])]⟩) (λi=>l.length-i) 0 ab ab (λi hi=>?_)
 by_cases hlt:i<l.length
 ·have hm:=iG (f:=dX) (B:=2^40) (l:=l) aa (ak hlt)
  have hne:∀h:¬(iM l[i]/\l[i].rev=ar d),¬qD ⟨d,l⟩:=λh hn=>h (hn l[i] (ak hlt))
  simp[hlt,Rep.row];intro b4;refine cF.quiet eok mix ah ?_;simp;refine⟨_,_,GU l[i] hm,ep,?_⟩;by_cases c1:iM l[i]
  ·simp[c1]
   refine⟨_,_,dz d,aV,?_⟩;exact WI
  ·exact VO
 ·exact UP
theorem uQ(s:ByteArray)(hl:s.size<=2^40):aH Tryz.prog 159 [.c (.v (.string s))] (.one (.c (vb (jd s)) 1)):=by
 refine pci au Tryz.func159 (λw0 base=>?_);simp;refine bk.intro eok (λi:Nat=>i<=s.size/\∀j,j<i->abK s j) (λi=>⟨23,0,[(3,.v (.int .i64 i)),(0,.v (.string s))],[]⟩) (λi=>s.size-i) 0 ab ab (λi hi=>?_);by_cases hlt:i<s.size
 ·exact WQ
 ·simp[hlt]
  refine ae.pure (cr s.size 1 8) ab ?_;exact WK
theorem Af(s:ByteArray)(hl:s.size<=2^40):aH Tryz.prog 145 [.c (.v (.string s))] (.one (.c (vb (jd s)) 1)):=by
 refine pci au Tryz.func145 (λw0 base=>?_);simp;refine bk.intro eok (λi:Nat=>i<=s.size/\∀j,j<i->abK s j) (λi=>⟨23,0,[(3,.v (.int .i64 i)),(0,.v (.string s))],[]⟩) (λi=>s.size-i) 0 ab ab (λi hi=>?_);by_cases hlt:i<s.size
 ·exact WQ
 ·simp[hlt]
  refine ae.pure (dT s.size 1 8) ab ?_;exact WK
theorem MJ(l:List Entry)(hl:nL cN l<=2^30):aH Tryz.prog 194 [.c (.s (l.map Entry.row))] (.one (.c (.s ((l.map Entry.o).map iF)) 1)):=by
 refine pci au Tryz.func194 (λw0 base=>?_);have hle:=cT hl;simp;refine aF eok (λx:Nat×Hd=>x.1<=l.length) (λx=>⟨20,0,[(8,.v (.int .i64 x.1)),(7,.v (.int .i64 l.length)),(6,.ro (l.map Entry.row)),(3,.sl 5000 x.2 1 0 x.1)],[(5000,.rows x.2 1 (((l.take x.1).map Entry.o).map iF) true)]⟩) (λx=>l.length-x.1) (0,none) ab ab (λx hx=>Ent.refl ?_);obtain⟨i,H⟩:=x;simp only at hx⊢;by_cases hlt:i<l.length
 ·have hm:=iN hl hlt
  unfold cN at hm;simp[hlt,Entry.row];intro b5;refine ae.pure (wQ l[i].o hm) ab ?_;exact Wi
 ·have e:l.length=i:=by omega
  simp[hlt];have e1:i<=min i l.length:=aa;refine⟨e1,?_,?_⟩
  ·intro row hr
   have:=bT hr;exact EG
  ·exact LC
theorem jE(d:Doc)(hl:eW d<=2^30):aH Tryz.prog 96 [.agg d.row] (.one (.c (vb (bS d)) 1)):=by
 refine pci au Tryz.func96 (λw0 base=>?_);obtain⟨n1,n2,n3,n4⟩:=fq hl;have hle:=cT n1;simp[Doc.row];intro b1;refine ae.pure (uQ d.name aa) ab ?_;by_cases c1:jd d.name
 rotate_left
 ·have h:¬bS d:=λh=>c1 h.1
  exact pj
 simp[c1];refine ae.pure (cr d.fr 0 999999000) ab ?_;by_cases c2:0<=d.fr/\d.fr<=999999000
 rotate_left
 ·have h:¬bS d:=λh=>c2 h.2.1
  exact xu
 simp[c2];refine ae.pure (mu d.text aa) ab ?_;by_cases c3:eD d.text
 rotate_left
 ·have h:¬bS d:=λh=>c3 h.2.2.1
  simp[aK c3,aK h]
 simp[c3];by_cases c4:d.list.length<=8
 rotate_left
 ·exact UI
 have c4':¬8<(d.list.length:Int):=aa;simp[c4']
 refine bk.intro eok (λi:Nat=>i<=d.list.length/\∀e∈d.list.take i,dq e) (λi=>⟨96,0,[(34,.v (.int .i64 i)),(33,.v (.int .i64 d.list.length)),(32,.ro (d.list.map Entry.row)),(1,.p 16 b1 0)],
  [(16,.vars b1 33 [.v (.string d.name),.v (.int .i64 d.fr),.ro (d.text.map aX),.ro (d.list.map Entry.row),.ro (d.seen.map Seen.row)])]⟩) (λi=>d.list.length-i) 0 ab ab (λi hi=>?_)
 by_cases hlt:i<d.list.length
 ·have hm:=iN n1 hlt
  simp[hlt,Entry.row];intro b4;refine ae.pure (po d.list[i] aa) lE ?_;by_cases c5:dq d.list[i]
  ·exact LR
  ·have h:¬bS d:=λh=>c5 (h.2.2.2.2.1 _ (ak hlt))
   simp[aK c5,aK h]
 have c5:∀e∈d.list,dq e:=vc aa hi.2;simp[hlt];refine cF.quiet eok mix ah ?_;simp;refine⟨_,_,MJ d.list n1,ab,?_⟩;simp
 have hops:∀o∈d.list.map Entry.o,nL aY o<=2^40:=by
  intro o ho;rw[cH]at ho;obtain⟨e,he,rfl⟩:=ho;have:=iG n1 he;unfold cN at this;omega
 refine⟨_,_,rl (d.list.map Entry.o) d.text aJ hops aa,ab,?_⟩;have hsome:=I8 (l:=d.list.map Entry.o) c3;generalize eA (d.list.map Entry.o) d.text=A at hsome⊢;obtain⟨u,ok⟩:=A;simp only at hsome⊢
 cases ok with
 | false =>
   have h:¬bS d:=λh=>by have:=hsome.2 h.2.2.2.2.2.1;simp at this
   simp[aK h]
 | true =>
   have c6:=hsome.1 rfl;simp;have hno:∀i,¬BO d i->¬bS d:=λi h hd=>h (λhh=>hd.2.2.2.2.2.2 i hh)
   refine bk.intro eok (λi:Nat=>i<=d.seen.length/\∀j,j<i->BO d j) (λi=>⟨96,0,[(56,.v (.int .i64 i)),(55,.v (.int .i64 d.seen.length)),(54,.ro (d.seen.map Seen.row)),(1,.p 16 b1 0)],
    [(16,.vars b1 33 [.v (.string d.name),.v (.int .i64 d.fr),.ro (d.text.map aX),.ro (d.list.map Entry.row),.ro (d.seen.map Seen.row)])]⟩) (λi=>d.seen.length-i) 0 ab ab (λi hi=>?_)
   by_cases hlt:i<d.seen.length
   rotate_left
   ·exact T5
   obtain⟨x,hx⟩:∃x,d.seen[i]=x:=⟨_,rfl⟩;simp[hlt,hx,Seen.row];intro b8;refine cF.quiet eok mix ah ?_;simp;refine⟨_,_,cr x.client 1 8,ab,?_⟩;by_cases s1:1<=x.client/\x.client<=8
   rotate_left
   ·exact T9
   simp[s1]
   have fin:(∀h0:0<i,d.seen[i-1].client<x.client)->(1<=x.seq/\x.seq<=1000000000)->(1<=x.rev/\x.rev<=ar d)->∀j,j<i+1->BO d j:=by
    exact U6
   have noq:¬(1<=x.seq/\x.seq<=1000000000)->¬bS d:=λs2=>hno i (λh=>s2 Ed)
   have nor:¬(1<=x.rev/\x.rev<=ar d)->¬bS d:=λs2=>hno i (λh=>s2 (by have:=(h hlt).2.2.1;rwa[hx]at this))
   cases i with
   | zero =>
     simp;refine⟨_,_,cr x.seq 1 1000000000,ab,?_⟩;by_cases s2:1<=x.seq/\x.seq<=1000000000
     rotate_left
     ·simp[aK s2,aK (noq s2)]
     simp[s2];refine⟨_,_,dz d,aV,?_⟩;simp;refine⟨_,_,cr x.rev 1 (ar d),ab,?_⟩;by_cases s3:1<=x.rev/\x.rev<=ar d
     rotate_left
     ·simp[aK s3,aK (nor s3)]
     simp[s3];exact TH
   | succ k =>
     have ek:Go.IntKind.i64.wrap (k:Int)=k:=jk aa;have hk1:k<d.seen.length:=aa;have hk0:(0:Int)<(k:Int)+1:=aa;obtain⟨y,hy⟩:∃y,d.seen[k]=y:=⟨_,rfl⟩;simp[ek,hk0,hk1,hy,Seen.row];by_cases s4:y.client<x.client
     rotate_left
     ·exact Wf
     have s4':¬x.client<=y.client:=aa;simp[s4'];refine⟨_,_,cr x.seq 1 1000000000,ab,?_⟩;by_cases s2:1<=x.seq/\x.seq<=1000000000
     rotate_left
     ·simp[aK s2,aK (noq s2)]
     simp[s2];refine⟨_,_,dz d,aV,?_⟩;simp;refine⟨_,_,cr x.rev 1 (ar d),ab,?_⟩;by_cases s3:1<=x.rev/\x.rev<=ar d
     rotate_left
     ·simp[aK s3,aK (nor s3)]
     simp[s3];exact VL
theorem jA(d:Doc)(hl:eW d<=2^30):aH Tryz.prog 195 [.agg d.row] (.one (.c (vb (bS d)) 1)):=by
 refine pci au Tryz.func195 (λw0 base=>?_);obtain⟨n1,n2,n3,n4⟩:=fq hl;have hle:=cT n1;simp[Doc.row];intro b1;refine ae.pure (Af d.name aa) ab ?_;by_cases c1:jd d.name
 rotate_left
 ·have h:¬bS d:=λh=>c1 h.1
  exact pj
 simp[c1];refine ae.pure (dT d.fr 0 999999000) ab ?_;by_cases c2:0<=d.fr/\d.fr<=999999000
 rotate_left
 ·have h:¬bS d:=λh=>c2 h.2.1
  exact xu
 simp[c2];refine ae.pure (mj d.text aa) ab ?_;by_cases c3:eD d.text
 rotate_left
 ·have h:¬bS d:=λh=>c3 h.2.2.1
  simp[aK c3,aK h]
 simp[c3];by_cases c4:d.list.length<=8
 rotate_left
 ·exact UI
 have c4':¬8<(d.list.length:Int):=aa;simp[c4']
 refine aF eok (λx:Nat×List Int=>x.1<=d.list.length/\(∀e∈d.list.take x.1,dq e)/\eD x.2/\ba ((d.list.map Entry.o).drop x.1) x.2=ba (d.list.map Entry.o) d.text) (λx=>⟨105,0,[(37,.v (.int .i64 x.1)),(36,.v (.int .i64 d.list.length)),(35,.ro (d.list.map Entry.row)),(3,.ro (x.2.map aX)),(1,.p 16 b1 0)],
  [(16,.vars b1 33 [.v (.string d.name),.v (.int .i64 d.fr),.ro (d.text.map aX),.ro (d.list.map Entry.row),.ro (d.seen.map Seen.row)])]⟩) (λx=>d.list.length-x.1) (0,d.text) ⟨ab,ab,c3,ab⟩ ab (λx hi=>Ent.refl ?_)
 obtain⟨i,t⟩:=x;obtain⟨hi1,hi2,hi3,hi4⟩:=hi;simp only at hi1 hi2 hi3 hi4⊢;by_cases hlt:i<d.list.length
 ·have hm:=iN n1 hlt
  have hmo:=tK (e:=d.list[i]) aa;rw[oj (show i<(d.list.map Entry.o).length from uo)]at hi4;simp only[oG]at hi4;have hyes:=@jx d.list[i].o t;have htok:=@kS d.list[i].o t;obtain⟨e,he⟩:∃e,d.list[i]=e:=⟨_,rfl⟩;have hmem:e∈d.list:=he ▸ ak hlt;have c5':dq e->∀e∈d.list.take (i+1),dq e:=λh=>Fp hlt hi2 (he ▸ h)
  rw[he]at hi4 hyes htok hm hmo;simp[hlt,he,Entry.row];intro b5;refine ae.pure (lR e.o t hmo (by have:=hi3.1;omega)) ab ?_;generalize apply e.o t=A at hi4 hyes htok⊢;obtain⟨u,ok⟩:=A;simp only at hi4 hyes htok⊢;simp;intro H1
  cases ok with
  | false =>
    have h:¬bS d:=λh=>by have:=h.2.2.2.2.2.1;rw[<-hi4]at this;simp at this
    simp[aK h]
  | true =>
    simp only[dF]at hi4;have hu:=(htok (hyes.1 rfl)).1;simp;refine ae.pure (pn e aa) lE ?_;by_cases c5:dq e
    rotate_left
    ·have h:¬bS d:=λh=>c5 (h.2.2.2.2.1 _ hmem)
     simp[aK c5,aK h]
    simp[c5];refine ae.pure (mj u (by have:=hu.1;omega)) ab ?_;simp[hu];refine rG 3 720 (sz:=1) (off:=0) (len:=u.length) (H:=H1) (rows:=u.map aX) (own:=true) ab ab ab (Ent.refl ⟨i+1,u,⟨aa,c5' c5,hu,hi4⟩,aa,?_⟩);exact pf
 ·have c5:∀e∈d.list,dq e:=vc aa hi2
  have c6:(ba (d.list.map Entry.o) d.text).isSome=true:=by
   rw[<-hi4,bK aJ];simp[ba]
  simp[hlt];have hno:∀i,¬BO d i->¬bS d:=λi h hd=>h (λhh=>hd.2.2.2.2.2.2 i hh)
  refine bk.intro eok (λi:Nat=>i<=d.seen.length/\∀j,j<i->BO d j) (λi=>⟨105,0,[(65,.v (.int .i64 i)),(64,.v (.int .i64 d.seen.length)),(63,.ro (d.seen.map Seen.row)),(1,.p 16 b1 0)],
   [(16,.vars b1 33 [.v (.string d.name),.v (.int .i64 d.fr),.ro (d.text.map aX),.ro (d.list.map Entry.row),.ro (d.seen.map Seen.row)])]⟩) (λi=>d.seen.length-i) 0 ab ab (λi hi=>?_)
  by_cases hlt:i<d.seen.length
  rotate_left
  ·exact T5
  obtain⟨x,hx⟩:∃x,d.seen[i]=x:=⟨_,rfl⟩;simp[hlt,hx,Seen.row];intro b8;refine cF.quiet eok mix ah ?_;simp;refine⟨_,_,dT x.client 1 8,ab,?_⟩;by_cases s1:1<=x.client/\x.client<=8
  rotate_left
  ·exact T9
  simp[s1]
  have fin:(∀h0:0<i,d.seen[i-1].client<x.client)->(1<=x.seq/\x.seq<=1000000000)->(1<=x.rev/\x.rev<=ar d)->∀j,j<i+1->BO d j:=by
   exact U6
  have noq:¬(1<=x.seq/\x.seq<=1000000000)->¬bS d:=λs2=>hno i (λh=>s2 Ed)
  have nor:¬(1<=x.rev/\x.rev<=ar d)->¬bS d:=λs2=>hno i (λh=>s2 (by have:=(h hlt).2.2.1;rwa[hx]at this))
  refine⟨_,_,dT x.seq 1 1000000000,ab,?_⟩;by_cases s2:1<=x.seq/\x.seq<=1000000000
  rotate_left
  ·simp[aK s2,aK (noq s2)]
  simp[s2];refine⟨_,_,dn d,aV,?_⟩;simp;refine⟨_,_,dT x.rev 1 (ar d),ab,?_⟩;by_cases s3:1<=x.rev/\x.rev<=ar d
  rotate_left
  ·simp[aK s3,aK (nor s3)]
  simp[s3]
  cases i with
  | zero =>
    simp;exact TH
  | succ k =>
    have ek:Go.IntKind.i64.wrap (k:Int)=k:=jk aa;have hk1:k<d.seen.length:=aa;have hk0:(0:Int)<(k:Int)+1:=aa;obtain⟨y,hy⟩:∃y,d.seen[k]=y:=⟨_,rfl⟩;simp[ek,hk0,hk1,hy,Seen.row];by_cases s4:y.client<x.client
    rotate_left
    ·exact Wf
    have s4':¬x.client<=y.client:=aa;simp[s4'];exact VL
theorem oa(d:Doc)(hl:eW d<=2^30)(rev:Int):aH Tryz.prog 98 [.agg d.row,.c (vi rev)] (.tup [.c (.s ((dj d rev).1.map aX)) 1,.c (.v (.bool (dj d rev).2)) 1]):=by
 refine pci au Tryz.func98 (λw0 base=>?_);obtain⟨n1,n2,n3,n4⟩:=fq hl;simp[Doc.row];intro b2;refine cF.quiet eok mix ah ?_;simp;refine⟨_,_,jE d hl,aV,?_⟩;by_cases c1:bS d
 rotate_left
 ·exact Ta
 simp[c1];refine⟨_,_,dz d,aV,?_⟩;simp;refine⟨_,_,cr rev d.fr (ar d),ab,?_⟩;by_cases c2:d.fr<=rev/\rev<=ar d
 rotate_left
 ·exact S9
 have e:=q8 ⟨c1,c2⟩;have hh:=bM c1;obtain⟨k,hk⟩:∃k:Nat,rev-d.fr=k:=⟨(rev-d.fr).toNat,aa⟩;have hkl:k<=d.list.length:=aa;have ew:Go.IntKind.i64.wrap (rev-d.fr)=(k:Int):=by rw[al _ aa];omega
 rw[hk]at e;simp only[bp]at e
 have hcut:cut (d.list.map Entry.row) 0 k=(d.list.take k).map Entry.row:=by
  exact Up
 simp[c2];refine drw eok mix [0,1,2,3,4,5,6,8,9] [7,10,11,12,13,14] (.c 9 7 4 507 (.c 9 10 1 506 (.c 9 11 0 506 (.c 9 12 0 506 (.c 9 13 506 0 (.c 9 14 0 0 (.l 9 0) .s) .s) .s) .s) .s) .s) ?_;simp[ew,hkl,hcut]
 try intros
 refine ae.pure (MJ (d.list.take k) (xK n1)) ab ?_;simp
 try intros
 refine ae.pure (rl ((d.list.take k).map Entry.o) d.text aJ (λo ho=>by have:=Cd n1 (λe he=>bT he) ho;omega) aa) (by simp) ?_;simp
 try intros
 simp[e]
theorem mm(d:Doc)(hl:eW d<=2^30)(rev:Int):aH Tryz.prog 203 [.agg d.row,.c (vi rev)] (.tup [.c (.s ((dj d rev).1.map aX)) 1,.c (.v (.bool (dj d rev).2)) 1]):=by
 refine pci au Tryz.func203 (λw0 base=>?_);obtain⟨n1,n2,n3,n4⟩:=fq hl;simp[Doc.row];intro b2;refine cF.quiet eok mix ah ?_;simp;refine⟨_,_,jA d hl,aV,?_⟩;by_cases c1:bS d
 rotate_left
 ·exact Ta
 simp[c1];refine⟨_,_,dn d,aV,?_⟩;simp;refine⟨_,_,dT rev d.fr (ar d),ab,?_⟩;by_cases c2:d.fr<=rev/\rev<=ar d
 rotate_left
 ·exact S9
 have e:=q8 ⟨c1,c2⟩;have hh:=bM c1;obtain⟨k,hk⟩:∃k:Nat,rev-d.fr=k:=⟨(rev-d.fr).toNat,aa⟩;have hkl:k<=d.list.length:=aa;have ew:Go.IntKind.i64.wrap (rev-d.fr)=(k:Int):=by rw[al _ aa];omega
 rw[hk]at e;simp only[bp]at e
 have hcut:cut (d.list.map Entry.row) 0 k=(d.list.take k).map Entry.row:=by
  exact Up
 obtain⟨l,hlk⟩:∃l,d.list.take k=l:=⟨_,rfl⟩;have hll:l.length=k:=by rw[<-hlk];simp;omega
 rw[hlk]at e hcut;have hmem:∀e∈l,e∈d.list:=λe he=>by rw[<-hlk]at he;exact bT he
 have hsome:=wW (d.list.map Entry.o) d.text k c1.2.2.2.2.2.1;rw[<-fm,hlk,pR]at hsome;obtain⟨u,hu⟩:=hsome;rw[P0 c1.2.2.1 hu]at e;simp[c2];intro b21;refine⟨aa,λH24=>?_⟩;simp[ew,hkl,hcut,hll]
 refine aF eok (λx:(Nat×List Int×Nat)×Hd=>(x.1.2.2=336\/x.1.2.2=656)/\x.1.1<=k/\x.1.2.1.length<=2^30/\ba ((l.map Entry.o).drop x.1.1) x.1.2.1=some u) (λx=>⟨46,0,[(33,.v (.int .i64 x.1.1)),(32,.v (.int .i64 k)),(31,.ro (l.map Entry.row)),(6,.sl x.1.2.2 x.2 1 0 x.1.2.1.length)],
  [(x.1.2.2,.rows x.2 1 (x.1.2.1.map aX) true)]⟩) (λx=>k-x.1.1) ((0,d.text,336),H24) ⟨.inl rfl,ab,gL,by simpa using hu⟩ ab (λx hi=>Ent.refl ?_)
 obtain⟨⟨i,t,kk⟩,H⟩:=x;obtain⟨hkk,hi1,hi2,hi3⟩:=hi;simp only at hkk hi1 hi2 hi3⊢;by_cases hlt:i<k
 ·have hlt':i<l.length:=by omega
  have hm:=Cd n1 hmem (vF (f:=Entry.o) (ak hlt'));rw[oj (show i<(l.map Entry.o).length by simpa using hlt')]at hi3;simp only[oG]at hi3;have hal:=mB l[i].o t;rcases hkk with rfl|rfl
  all_goals
   simp[hlt,hlt',Entry.row];intro b8;refine ae.pure (lR l[i].o t aa aa) ab ?_;generalize apply l[i].o t=A at hi3 hal⊢;obtain⟨v,ok⟩:=A;simp only at hi3 hal⊢;simp;intro H1
   cases ok with
   |false=>simp at hi3
   | true =>
     simp only[dF]at hi3;refine Ent.refl ⟨i+1,v,656,⟨.inr rfl,aa,aa,hi3⟩,aa,H1,?_⟩;exact pf
 ·have hi4:t=u:=by
   rw[bK aJ]at hi3
   simpa[ba]using hi3
  subst hi4;rcases hkk with rfl|rfl
  all_goals
   simp[hlt,e]
theorem qF(d:Doc)(hl:eW d<=2^40)(c:Int):aH Tryz.prog 80 [.agg d.row,.c (vi c)] (.tup [.agg (cz d c).1.res,.c (.v (.bool (cz d c).2)) 1]):=by
 refine pci au Tryz.func80 (λw0 base=>?_);exact W7
theorem nW(d:Doc)(hl:eW d<=2^40)(c:Int):aH Tryz.prog 130 [.agg d.row,.c (vi c)] (.tup [.agg (cz d c).1.res,.c (.v (.bool (cz d c).2)) 1]):=by
 refine pci au Tryz.func130 (λw0 base=>?_);exact W7
theorem wz(n:Net)(hl:gT n<=2^30):aH Tryz.prog 29 [.agg n.row] (.one (.c (vb (gS n)) 1)):=by
 refine pci au Tryz.func29 (λw0 base=>?_);obtain⟨d,l⟩:=n;unfold gT at hl;simp only at hl;have hle:=cT (f:=dX) (B:=2^40) (l:=l) aa;simp[Net.row];intro b1;refine ae.pure (jE d aa) aV ?_;by_cases c1:bS d
 rotate_left
 ·have h:¬gS ⟨d,l⟩:=λh=>c1 h.1
  exact pj
 simp[c1];refine ae.pure (cr l.length 1 4) ab ?_;by_cases c2:1<=l.length/\l.length<=4
 rotate_left
 ·exact VH
 have c2':1<=(l.length:Int)/\(l.length:Int)<=4:=aa;have hh:=bM c1;simp[c2']
 refine aF eok (λi:Nat=>i<=l.length/\∀j,j<i->∀h:j<l.length,ke d j l[j]) (λi=>⟨98,0,[(23,.v (.int .i64 i)),(22,.v (.int .i64 l.length)),(21,.ro (l.map Rep.row)),(1,.p 16 b1 0)],
  [(16,.vars b1 36 [.v (.string d.name),.v (.int .i64 d.fr),.ro (d.text.map aX),.ro (d.list.map Entry.row),.ro (d.seen.map Seen.row),.ro (l.map Rep.row)])]⟩) (λi=>l.length-i) 0 ab ab (λi hi=>Ent.refl ?_)
 by_cases hlt:i<l.length
 rotate_left
 ·exact Uu
 have hm:=iG (f:=dX) (B:=2^30) (l:=l) aa (ak hlt);obtain⟨r,hr⟩:∃r,l[i]=r:=⟨_,rfl⟩;have hno:¬ke d i r->¬gS ⟨d,l⟩:=λh hn=>h (hr ▸ hn.2.2 i hlt)
 rw[hr]at hm;have ew:Go.IntKind.i64.wrap ((i:Int)+1)=(i:Int)+1:=al _ aa;have hdn:eW d<=2^30:=aa;have htext:r.text.length<=2^30:=by unfold dX at hm;omega
 simp[hlt,hr,Rep.row];intro b4;refine cF.quiet eok mix ah ?_;simp;refine⟨_,_,gI r aa,ep,?_⟩;by_cases s1:cm r
 rotate_left
 ·simp[aK s1,aK (hno (λh=>s1 h.1))]
 simp[s1,ew];by_cases s2:r.client=i+1
 rotate_left
 ·simp[s2,ew,aK (hno (λh=>s2 h.2.1))]
 simp[s2,ew];refine⟨_,_,dz d,aV,?_⟩;by_cases s3:r.rev<=ar d
 rotate_left
 ·exact Ts
 have s3':¬ar d<r.rev:=aa;simp[s3'];refine ae.pure (oa d hdn r.rev) aV ?_;have htl:=lM d r.rev
 have hra:ke d i r↔((dj d r.rev).2=true->(dj d r.rev).1=r.text)/\jB r (cz d ((i:Int)+1)).1:=by
  rw[<-s2];exact⟨λh=>h.2.2.2,λh=>⟨s1,s2,s3,h⟩⟩
 have hsb:=tj c1 ((i:Int)+1)
 have fin:ke d i r->∀j,j<i+1->∀h:j<l.length,ke d j l[j]:=by
  exact Ue
 have hseq:=s1.2.1;generalize dj d r.rev=T at htl hra⊢;obtain⟨t,ok⟩:=T;simp only at htl hra⊢;simp;intro H1;have hsn:∀S:Seen,0<=S.seq->S.seq<=1000000000->Go.IntKind.i64.wrap (S.seq+1)=S.seq+1:=λS h1 h2=>al _ aa
 have hcase:ok=false\/(ok=true/\t≠r.text)\/(ok=true/\t=r.text):=by
  exact VB
 rcases hcase with rfl|⟨rfl,ht⟩|⟨rfl,ht⟩
 ·simp
  refine ae.pure (qF d aa ((i:Int)+1)) (by simp[Doc.row,s2]) ?_;exact Xb
 ·simp
  refine ae.pure (xD t r.text aa) ab ?_;have h:=hno (λh=>ht ((hra.1 h).1 rfl));simp[ht,aK h]
 ·simp
  refine ae.pure (xD t r.text aa) ab ?_;simp[ht];refine ae.pure (qF d aa ((i:Int)+1)) (by simp[Doc.row,s2]) ?_;exact Xa
theorem vQ(n:Net)(hl:gT n<=2^30):aH Tryz.prog 106 [.agg n.row] (.one (.c (vb (gS n)) 1)):=by
 refine pci au Tryz.func106 (λw0 base=>?_);obtain⟨d,l⟩:=n;unfold gT at hl;simp only at hl;have hle:=cT (f:=dX) (B:=2^40) (l:=l) aa;simp[Net.row];intro b1;refine ae.pure (jA d aa) aV ?_;by_cases c1:bS d
 rotate_left
 ·have h:¬gS ⟨d,l⟩:=λh=>c1 h.1
  exact pj
 simp[c1];refine ae.pure (dT l.length 1 4) ab ?_;by_cases c2:1<=l.length/\l.length<=4
 rotate_left
 ·exact VH
 have c2':1<=(l.length:Int)/\(l.length:Int)<=4:=aa;have hh:=bM c1;simp[c2']
 refine aF eok (λi:Nat=>i<=l.length/\∀j,j<i->∀h:j<l.length,ke d j l[j]) (λi=>⟨107,0,[(23,.v (.int .i64 i)),(22,.v (.int .i64 l.length)),(21,.ro (l.map Rep.row)),(1,.p 16 b1 0)],
  [(16,.vars b1 36 [.v (.string d.name),.v (.int .i64 d.fr),.ro (d.text.map aX),.ro (d.list.map Entry.row),.ro (d.seen.map Seen.row),.ro (l.map Rep.row)])]⟩) (λi=>l.length-i) 0 ab ab (λi hi=>Ent.refl ?_)
 by_cases hlt:i<l.length
 rotate_left
 ·exact Uu
 have hm:=iG (f:=dX) (B:=2^30) (l:=l) aa (ak hlt);obtain⟨r,hr⟩:∃r,l[i]=r:=⟨_,rfl⟩;have hno:¬ke d i r->¬gS ⟨d,l⟩:=λh hn=>h (hr ▸ hn.2.2 i hlt)
 rw[hr]at hm;have ew:Go.IntKind.i64.wrap ((i:Int)+1)=(i:Int)+1:=al _ aa;have hdn:eW d<=2^30:=aa;have htext:r.text.length<=2^30:=by unfold dX at hm;omega
 simp[hlt,hr,Rep.row];intro b4;refine cF.quiet eok mix ah ?_;simp;refine⟨_,_,gH r aa,ep,?_⟩;by_cases s1:cm r
 rotate_left
 ·simp[aK s1,aK (hno (λh=>s1 h.1))]
 simp[s1,ew];by_cases s2:r.client=i+1
 rotate_left
 ·simp[s2,ew,aK (hno (λh=>s2 h.2.1))]
 simp[s2,ew];refine⟨_,_,dn d,aV,?_⟩;by_cases s3:r.rev<=ar d
 rotate_left
 ·exact Ts
 have s3':¬ar d<r.rev:=aa;simp[s3'];refine ae.pure (mm d hdn r.rev) aV ?_;have htl:=lM d r.rev
 have hra:ke d i r↔((dj d r.rev).2=true->(dj d r.rev).1=r.text)/\jB r (cz d ((i:Int)+1)).1:=by
  rw[<-s2];exact⟨λh=>h.2.2.2,λh=>⟨s1,s2,s3,h⟩⟩
 have hsb:=tj c1 ((i:Int)+1)
 have fin:ke d i r->∀j,j<i+1->∀h:j<l.length,ke d j l[j]:=by
  exact Ue
 have hseq:=s1.2.1;generalize dj d r.rev=T at htl hra⊢;obtain⟨t,ok⟩:=T;simp only at htl hra⊢;simp;intro H1;have hsn:∀S:Seen,0<=S.seq->S.seq<=1000000000->Go.IntKind.i64.wrap (S.seq+1)=S.seq+1:=λS h1 h2=>al _ aa
 have hcase:ok=false\/(ok=true/\t≠r.text)\/(ok=true/\t=r.text):=by
  exact VB
 rcases hcase with rfl|⟨rfl,ht⟩|⟨rfl,ht⟩
 ·simp
  refine ae.pure (nW d aa ((i:Int)+1)) (by simp[Doc.row,s2]) ?_;exact Xb
 ·simp
  refine ae.pure (vV t r.text aa) ab ?_;have h:=hno (λh=>ht ((hra.1 h).1 rfl));simp[ht,aK h]
 ·simp
  refine ae.pure (vV t r.text aa) ab ?_;simp[ht];refine ae.pure (nW d aa ((i:Int)+1)) (by simp[Doc.row,s2]) ?_;exact Xa
inductive At where
 |k
 |p (c:Int)
 |d
def ats(p:Part):List At:=if p.kind=2 then p.signs.map At.p else if p.kind=3 then List.replicate (psz p) .d else List.replicate (psz p) .k
def aZ:List Part->List At
 | []=>[]
 |p::l=>ats p++aZ l
theorem dr:∀(a b:List Part),aZ (a++b)=aZ a++aZ b
 | [],b=>rfl
 |p::a,b=>by simp[aZ,dr a b]
def frA:List At->Nat
 | []=>0
 | .p _::l=>frA l
 |_::l=>frA l+1
def toA:List At->Nat
 | []=>0
 | .d::l=>toA l
 |_::l=>toA l+1
theorem fk:∀(a b:List At),frA (a++b)=frA a+frA b
 | [],b=>by simp[frA]
 | .p c::a,b=>by simp[frA,fk a b]
 | .k::a,b=>by simp[frA,fk a b];omega
 | .d::a,b=>by simp[frA,fk a b];omega
theorem fM:∀(a b:List At),toA (a++b)=toA a+toA b
 | [],b=>by simp[toA]
 | .d::a,b=>by simp[toA,fM a b]
 | .k::a,b=>by simp[toA,fM a b];omega
 | .p c::a,b=>by simp[toA,fM a b];omega
theorem wC:∀l:List Int,frA (l.map At.p)=0
 | []=>rfl
 |c::l=>by simp[frA,wC l]
theorem BE:∀l:List Int,toA (l.map At.p)=l.length
 | []=>rfl
 |c::l=>by simp[toA,BE l]
theorem GW:∀n:Nat,frA (List.replicate n At.k)=n
 |0=>rfl
 |n+1=>by simp[bo,frA,GW n]
theorem B6:∀n:Nat,frA (List.replicate n At.d)=n
 |0=>rfl
 |n+1=>by simp[bo,frA,B6 n]
theorem KX:∀n:Nat,toA (List.replicate n At.k)=n
 |0=>rfl
 |n+1=>by simp[bo,toA,KX n]
theorem y0:∀n:Nat,toA (List.replicate n At.d)=0
 |0=>rfl
 |n+1=>by simp[bo,toA,y0 n]
theorem Av{p:Part}(h:aS p)(k:p.kind=2):psz p=p.signs.length:=by
 rw[ni k]at h;unfold psz;omega
theorem ahT{p:Part}:frA (ats p)=if p.kind=2 then 0 else psz p:=by
 unfold ats
 split
 ·exact wC _
 ·split
  ·exact B6 _
  ·exact GW _
theorem ahS{p:Part}(h:aS p):toA (ats p)=if p.kind=3 then 0 else psz p:=by
 unfold ats;by_cases k:p.kind=2
 ·have:¬p.kind=3:=by omega
  rw[ai k,aj this,BE,Av h k]
 ·rw[aj k]
  split
  ·exact y0 _
  ·exact KX _
theorem oS:∀(o:List Part),frs o=frA (aZ o)
 | []=>rfl
 |p::o=>by simp only[frs,aZ,fk,ahT,oS o]
theorem qY:∀{o:List Part},(∀p∈o,aS p)->tos o=toA (aZ o)
 | [],_=>rfl
 | p :: o, h => by
   simp only[tos,aZ,fM,ahS (h p (aN ..)),qY (λq hq=>h q (aD _ hq))]
def nA:List Int->Nat->List At->List At
 |P,n,[]=>P.map At.p++List.replicate n .d
 |P,n,.k::l=>P.map At.p++(List.replicate n .d ++ .k::nA [] 0 l)
 |P,n,.p c::l=>nA (P++[c]) n l
 |P,n,.d::l=>nA P (n+1) l
def nY(l:List At):List At:=nA [] 0 l
theorem XA:∀(l:List At) (P:List Int) (n:Nat),frA (nA P n l)=n+frA l
 | [],P,n=>by simp[nA,frA,fk,wC,B6]
 | .k::l,P,n=>by simp[nA,frA,fk,wC,B6,XA l]
 | .p c::l,P,n=>by simp[nA,frA,XA l]
 | .d::l,P,n=>by simp[nA,frA,XA l];omega
theorem Xy:∀(l:List At) (P:List Int) (n:Nat),toA (nA P n l)=P.length+toA l
 | [],P,n=>by simp[nA,toA,fM,BE,y0]
 | .k::l,P,n=>by simp[nA,toA,fM,BE,y0,Xy l]
 | .p c::l,P,n=>by simp[nA,toA,Xy l];omega
 | .d::l,P,n=>by simp[nA,toA,Xy l]
theorem Xz:∀(Q P:List Int) (n:Nat) (l:List At),nA P n (Q.map At.p++l)=nA (P++Q) n l
 | [],P,n,l=>ab
 |c::Q,P,n,l=>by simp[nA,Xz Q]
theorem XB:∀(m:Nat) (P:List Int) (n:Nat) (l:List At),nA P n (List.replicate m .d++l)=nA P (n+m) l
 |0,P,n,l=>ab
 |m+1,P,n,l=>by simp[bo,nA,XB m];congr 1;omega
theorem afu:∀(m:Nat) (l:List At),nA [] 0 (List.replicate m .k++l)=List.replicate m .k++nA [] 0 l
 |0,l=>ab
 |m+1,l=>by simp[bo,nA,afu m]
def bA(s:List Part×List Int×Int):List At:=aZ s.1++(s.2.1.map At.p++List.replicate s.2.2.toNat .d)
theorem Pm{L:List Part}{P:List Int}{D:Int}:aZ (bH L P D)=bA (L,P,D):=by
 unfold bH bA;rw[dr,dr]
 congr 1
 congr 1
 ·split
  ·rename_i h;simp[h,aZ]
  ·simp[aZ,ats]
 ·split
  ·simp[aZ,ats,psz]
  ·have:D.toNat=0:=by omega
   simp[aZ,this]
theorem wU:∀(L:List Part) (_h:0<L.length) (p:Part),aZ (L.set (L.length-1) p)=aZ L.dropLast++ats p
 | [q],h,p=>by simp[aZ]
 | q :: r :: L, h, p => by
   have ih:=wU (r::L) ab p;simp only[bu,iY]at ih⊢;rw[yn,aZ,ih];simp[aZ]
theorem HQ:∀(L:List Part) (h:0<L.length),aZ L=aZ L.dropLast++ats (L[L.length-1]' aa)
 | [q],h=>by simp[aZ]
 | q :: r :: L, h => by
   have ih:=HQ (r::L) ab;simp only[bu,iY]at ih⊢;rw[aZ,ih];simp[aZ]
theorem aeo{L:List Part}{n:Int}(hn:0<n)(hL:∀q∈L,0<=q.n)(hk:∀q∈L,q.kind=1->q.signs=[]):aZ (eE L n)=aZ L++List.replicate n.toNat .k:=by
 unfold eE
 split
 ·rename_i h
  split
  ·rename_i k
   have h1:=hL _ (ak (show L.length-1<L.length from aa));have h2:=hk _ (ak (show L.length-1<L.length from aa)) k;rw[wU L h,HQ L h,bf]
   congr 1
   generalize L[L.length-1]' aa=q at h1 h2 k;obtain⟨a,b,c⟩:=q;simp only at h1 h2 k;subst k h2;simp[ats,psz,List.replicate_append_replicate];omega
  ·rw[dr]
   simp[aZ,ats,psz]
 ·rename_i h
  have:L=[]:=aL aa;subst this;simp[aZ,ats,psz]
theorem Da{L:List Part}{P:List Int}{D:Int}(h:∀q∈L,q.kind=1->q.signs=[]):∀q∈bH L P D,q.kind=1->q.signs=[]:=by
 intro q hq hk;unfold bH at hq;rcases aG.1 hq with hq|hq
 ·exact h q hq hk
 ·rcases aG.1 hq with hq|hq
  ·split at hq
   ·simp at hq
   ·simp at hq;subst hq;simp at hk
  ·split at hq
   ·simp at hq;subst hq;rfl
   ·simp at hq
theorem Rb{L:List Part}{n:Int}(h:∀q∈L,q.kind=1->q.signs=[]):∀q∈eE L n,q.kind=1->q.signs=[]:=by
 intro q hq hk;unfold eE at hq
 split at hq
 ·rename_i hl
  split at hq
  ·rename_i k
   rcases dB hq with hq|rfl
   ·exact h q hq hk
   ·exact(h (L[L.length-1]' aa) (ak _) k :)
  ·rcases aG.1 hq with hq|hq
   ·exact h q hq hk
   ·simp at hq;subst hq;rfl
 ·simp at hq;subst hq;rfl
theorem OM{o:List Part}(ho:∀p∈o,aS p):∀(i:Nat),i<=o.length->(∀q∈(cq (o.take i)).1,q.kind=1->q.signs=[])/\0<=(cq (o.take i)).2.2/\(∀q∈(cq (o.take i)).1,0<=q.n) /\
 ∀l,nY (aZ (o.take i)++l)=aZ (cq (o.take i)).1++nA (cq (o.take i)).2.1 (cq (o.take i)).2.2.toNat l
 |0,_=>by simp[cq,aZ,nY]
 | i + 1, hi => by
   obtain⟨h1,h2,h3,h4⟩:=OM ho i aa;have hlt:i<o.length:=aa;have hq:=(rj ho (i+1) hi);have hp:=(ho _ (ak hlt));have hb:=hp.bounds;refine⟨?_,hq.d0,λq hq'=>(hq.q q hq').1,λl=>?_⟩
   ·rw[nz hlt]
    unfold fC
    split
    ·exact h1
    ·split
     ·exact h1
     ·split
      ·exact Rb (Da h1)
      ·exact h1
   ·rw[<-dM hlt,dr,bf,h4,dM hlt,nz hlt]
    generalize cq (o.take i)=s at h1 h2 h3;generalize o[i]=p at hp hb;obtain⟨L,P,D⟩:=s;simp only at h1 h2 h3;simp only[aZ,bg];unfold fC;by_cases k2:p.kind=2
    ·simp only[k2,dF]
     rw[show ats p=p.signs.map At.p by unfold ats;rw[ai k2],Xz]
    ·by_cases k3:p.kind=3
     ·have hs:=hb.2.2.2.2.2 k2
      have e:(D+p.n).toNat=D.toNat+p.n.toNat:=aa;simp only[k3,dF];rw[show ats p=List.replicate (psz p) .d by unfold ats;rw[aj k2,ai k3],XB];simp[e,psz,hs]
     ·have k1:p.kind=1:=by omega
      have hs:=hb.2.2.2.2.2 k2;have e:ats p=List.replicate p.n.toNat .k:=by unfold ats;rw[aj k2,aj k3];simp[psz,hs]
      simp only[k2,k3,dO];rw[e]
      split
      ·rename_i hn
       have hfl:∀q∈bH L P D,0<=q.n:=by
        intro q hq';unfold bH at hq';rcases aG.1 hq' with hq'|hq'
        ·exact h3 q hq'
        ·rcases aG.1 hq' with hq'|hq'
         ·split at hq'
          ·simp at hq'
          ·simp at hq';subst hq';simp
         ·split at hq'
          ·simp at hq';subst hq';simp;omega
          ·simp at hq'
       simp only;rw[aeo hn hfl (Da h1),Pm];obtain⟨m,hm⟩:∃m,p.n.toNat=m+1:=⟨p.n.toNat-1,aa⟩;rw[hm];simp[bA,bo,nA,afu]
      ·have:p.n.toNat=0:=by omega
       simp[this]
theorem jv{o:List Part}(ho:∀p∈o,aS p):aZ (normal o)=nY (aZ o):=by
 have h:=(OM ho o.length (aw _)).2.2.2 [];rw[dH,bg]at h;unfold normal;rw[Pm,h];unfold bA;simp[nA]
theorem AF(l:List At):frA (nY l)=frA l:=by unfold nY;rw[XA];omega
theorem AE(l:List At):toA (nY l)=toA l:=by unfold nY;rw[Xy];simp
def tA:List At->List At->List At×List At
 | .p c::a,b=>(.p c::(tA a b).1,.k::(tA a b).2)
 | [],.p c::b=>(.k::(tA [] b).1,.p c::(tA [] b).2)
 | .k::a,.p c::b=>(.k::(tA (.k::a) b).1,.p c::(tA (.k::a) b).2)
 | .d::a,.p c::b=>(.k::(tA (.d::a) b).1,.p c::(tA (.d::a) b).2)
 | .k::a,.k::b=>(.k::(tA a b).1,.k::(tA a b).2)
 | .k::a,.d::b=>((tA a b).1,.d::(tA a b).2)
 | .d::a,.k::b=>(.d::(tA a b).1,(tA a b).2)
 | .d::a,.d::b=>tA a b
 | [],_=>([],[])
 |_,[]=>([],[])
termination_by a b=>a.length+b.length
def noP:List At->Bool
 | .p _::_=>false
 |_=>true
theorem adC{c:Int}{a b:List At}:tA (.p c::a) b=(.p c::(tA a b).1,.k::(tA a b).2):=by rw[tA]
theorem agK{c:Int}{a b:List At}(h:noP a=true):tA a (.p c::b)=(.k::(tA a b).1,.p c::(tA a b).2):=by
 match a,h with
 | [],_=>rw[tA]
 | .k::a,_=>rw[tA]
 | .d::a,_=>rw[tA]
theorem afj{a b:List At}:∀Q:List Int,tA (Q.map At.p++a) b=(Q.map At.p++(tA a b).1,List.replicate Q.length .k++(tA a b).2)
 | []=>ab
 |c::Q=>by simp[adC,afj Q,bo]
theorem aa4{a b:List At}(h:noP a=true):∀Q:List Int,tA a (Q.map At.p++b)=(List.replicate Q.length .k++(tA a b).1,Q.map At.p++(tA a b).2)
 | []=>ab
 |c::Q=>by simp[agK h,aa4 h Q,bo]
theorem afk{a b:List At}:∀n:Nat,tA (List.replicate n .k++a) (List.replicate n .k++b)=(List.replicate n .k++(tA a b).1,List.replicate n .k++(tA a b).2)
 |0=>ab
 |n+1=>by simp[bo,tA,afk n]
theorem afl{a b:List At}:∀n:Nat,tA (List.replicate n .k++a) (List.replicate n .d++b)=((tA a b).1,List.replicate n .d++(tA a b).2)
 |0=>ab
 |n+1=>by simp[bo,tA,afl n]
theorem afm{a b:List At}:∀n:Nat,tA (List.replicate n .d++a) (List.replicate n .k++b)=(List.replicate n .d++(tA a b).1,(tA a b).2)
 |0=>ab
 |n+1=>by simp[bo,tA,afm n]
theorem afn{a b:List At}:∀n:Nat,tA (List.replicate n .d++a) (List.replicate n .d++b)=tA a b
 |0=>ab
 |n+1=>by simp[bo,tA,afn n]
theorem lr:∀{x:List Part},(∀p∈x,aS p)->aZ (nxt x)=aZ x
 | [],_=>rfl
 | p :: l, h => by
   have ih:=lr (x:=l) (λq hq=>h q (aD _ hq));unfold nxt
   split
   ·rename_i hz
    rw[ih,aZ]
    have:ats p=[]:=by
     have hp:=h p (aN ..);unfold ats
     split
     ·rename_i k;rw[Av hp k]at hz;simp[aL hz]
     ·split<;>simp[hz]
    simp[this]
   ·rfl
theorem nH{p:Part}(h:aS p){n:Nat}(hn:n<=psz p):ats p=ats (gl p n)++ats (cf p n):=by
 have hb:=h.bounds;by_cases k2:p.kind=2
 ·unfold ats gl cf
  simp only[k2,dF];rw[<-iJ,gD]
 ·have hs:=hb.2.2.2.2.2 k2
  have hz:psz p=p.n.toNat:=by simp[psz,hs]
  have e:p.n.toNat=n+(p.n-n).toNat:=aa;by_cases k3:p.kind=3
  ·unfold ats gl cf
   simp only[k3,dF];simp[psz,hs];omega
  ·unfold ats gl cf
   simp only[k2,dO,k3];simp[psz,hs];omega
theorem HP{p:Part}(h:aS p):ats (cf p (psz p))=[]:=by
 have h1:=nH h (aw (psz p));rw[fN h]at h1
 simpa using h1
theorem XZ{p:Part}(_h:aS p)(k:p.kind≠2):ats p=if p.kind=3 then List.replicate (psz p) .d else List.replicate (psz p) .k:=by unfold ats;rw[aj k]
theorem pw{p:Part}(h:aS p)(k:p.kind≠2){n:Nat}(hn:n<=psz p):ats (gl p n)=if p.kind=3 then List.replicate n .d else List.replicate n .k:=by
 have hs:=h.bounds.2.2.2.2.2 k;have:psz (gl p n)=n:=by unfold psz gl;rw[aj k];simp[hs]
 rw[XZ (sa h hn) (by simpa using k),this];simp
theorem aeN{p:Part}(h:aS p)(k:p.kind≠2)(hp:0<psz p)(l:List At):noP (ats p++l)=true:=by
 rw[XZ h k];obtain⟨m,hm⟩:∃m,psz p=m+1:=⟨psz p-1,aa⟩;rw[hm]
 split<;>simp[bo,noP]
theorem FC{x y:List Part}(hi:TInv x y)(h:iL x y=none):nxt x=[]/\nxt y=[]:=by
 have hxt:=mq x;have hyf:=mq y;have hb:=hi.b;unfold iL at h
 cases ex:nxt x with
 | nil =>
   rw[ex]at h hxt
   cases ey:nxt y with
   |nil=>exact⟨rfl,rfl⟩
   | cons q y' =>
     rw[ey]at hyf;have hp:=fY ey;simp only[ey]at h
     split at h
     ·cases h
     ·rename_i k
      simp[frs,k]at hxt hyf;omega
 | cons p x' =>
   rw[ex]at h hxt;have hp:=fY ex;simp only at h
   split at h
   ·cases h
   ·rename_i k
    cases ey:nxt y with
    | nil =>
      rw[ey]at hyf;simp[frs,k]at hxt hyf;omega
    | cons q y' =>
      simp only[ey]at h
      split at h<;>cases h
theorem aaj:∀(k:Nat) {x y:List Part},TInv x y->tsz x+tsz y<=k->(aZ (xfK k x y).1,aZ (xfK k x y).2)=tA (aZ x) (aZ y)
 | 0, x, y, hi, h => by
   have hn:iL x y=none:=by
    exact LP
   obtain⟨e1,e2⟩:=FC hi hn;rw[<-lr hi.px,<-lr hi.py,e1,e2];simp[xfK,aZ,tA]
 | k + 1, x, y, hi, h => by
   rw[xfK]
   cases hs:iL x y with
   | none =>
     obtain⟨e1,e2⟩:=FC hi hs;rw[<-lr hi.px,<-lr hi.py,e1,e2];simp[aZ,tA]
   | some r =>
     have hn:=jL hi hs;have hd:=hn.dec;have ih:=aaj k hn.inv aa;simp only[dr];rw[<-lr hi.px,<-lr hi.py];generalize xfK k r.2.1 r.2.2=Z at ih⊢;unfold iL at hs
     cases ex:nxt x with
     | nil =>
       rw[ex]at hs
       cases ey:nxt y with
       |nil=>simp[ey]at hs
       | cons q y' =>
         have hq:=fZ hi.py ey;simp only[ey]at hs
         split at hs
         ·rename_i kq
          cases hs
          simp only[aZ,HP hq.1,gb]at ih;simp only[aZ,fN hq.1,bg];rw[show ats q=q.signs.map At.p by unfold ats;rw[ai kq],aa4 rfl,<-ih];simp[ats,psz]
         ·cases hs
     | cons p x' =>
       rw[ex]at hs;have hp:=fZ hi.px ex;have hpp:=fY ex;simp only at hs
       split at hs
       ·rename_i kp
        cases hs
        simp only[aZ,HP hp.1,gb]at ih;simp only[aZ,fN hp.1,bg,lr hi.py];rw[show ats p=p.signs.map At.p by unfold ats;rw[ai kp],afj,<-ih];simp[ats,psz]
       ·rename_i kp
        cases ey:nxt y with
        |nil=>simp[ey]at hs
        | cons q y' =>
          have hq:=fZ hi.py ey;have hqp:=fY ey;simp only[ey]at hs
          split at hs
          ·rename_i kq
           cases hs
           simp only[aZ,HP hq.1,gb]at ih;simp only[aZ,fN hq.1,bg];rw[show ats q=q.signs.map At.p by unfold ats;rw[ai kq],aa4 (aeN hp.1 kp hpp _),<-ih];simp[ats,psz]
          ·rename_i kq
           cases hs
           have hn1:min (psz p) (psz q)<=psz p:=aa;have hn2:min (psz p) (psz q)<=psz q:=aa;simp only[aZ]at ih⊢;rw[nH hp.1 hn1,nH hq.1 hn2,pw hp.1 kp hn1,pw hq.1 kq hn2,bf,bf];have hb1:=hp.1.bounds.1;have hb2:=hq.1.bounds.1;generalize min (psz p) (psz q)=n at ih hn1 hn2⊢;by_cases k1:p.kind=3<;>by_cases k2:q.kind=3
           ·have e1:¬p.kind=1:=by omega
            have e2:¬q.kind=1:=aa;simp only[k1,k2,dF,afn,<-ih];simp[aZ]
           ·have e1:¬p.kind=1:=by omega
            have e2:q.kind=1:=aa;simp only[k1,k2,dF,dO,afm,<-ih];simp[aZ,e2,pw hp.1 kp hn1,k1]
           ·have e1:p.kind=1:=by omega
            have e2:¬q.kind=1:=aa;simp only[k1,k2,dF,dO,afl,<-ih];simp[aZ,e1,pw hq.1 kq hn2,k2]
           ·have e1:p.kind=1:=by omega
            have e2:q.kind=1:=aa;simp only[k1,k2,dO,afk,<-ih];simp[aZ,e1,e2,pw hp.1 kp hn1,pw hq.1 kq hn2]
theorem aiV{x y:List Part}(hi:TInv x y):(aZ (xf x y).1,aZ (xf x y).2)=tA (aZ x) (aZ y):=aaj _ hi (aw _)
theorem y4:∀(a b:List At),frA a=frA b->frA (tA a b).1=toA b/\frA (tA a b).2=toA a/\toA (tA a b).1=toA (tA a b).2
 | .p c :: a, b, h => by
   have ih:=y4 a b qi;rw[adC];simp[frA,toA];omega
 | [], .p c :: b, h => by
   have ih:=y4 [] b qi;exact Lx
 | .k :: a, .p c :: b, h => by
   have ih:=y4 (.k::a) b qi;exact Lx
 | .d :: a, .p c :: b, h => by
   have ih:=y4 (.d::a) b qi;exact Lx
 | .k :: a, .k :: b, h => by
   exact LL
 | .k :: a, .d :: b, h => by
   exact LL
 | .d :: a, .k :: b, h => by
   exact LL
 | .d :: a, .d :: b, h => by
   have ih:=y4 a b qi;rw[tA];simp[toA];omega
 | [],[],h=>by simp[tA,frA,toA]
 | [],.k::b,h=>rV
 | [],.d::b,h=>rV
 | .k::a,[],h=>rV
 | .d::a,[],h=>rV
termination_by a b=>a.length+b.length
theorem afi{x y:List Part}(hi:TInv x y):(∀p∈(xf x y).1,aS p)/\∀p∈(xf x y).2,aS p:=by
 have key:∀(k:Nat) {x y:List Part},TInv x y->(∀p∈(xfK k x y).1,aS p)/\∀p∈(xfK k x y).2,aS p:=by
  intro k
  induction k with
  |zero=>intro x y hi;simp[xfK]
  | succ k ih =>
    intro x y hi;rw[xfK]
    cases hs:iL x y with
    |none=>simp
    | some r =>
      have hn:=jL hi hs;have h2:=ih hn.inv;simp only[aG];exact⟨λp hp=>hp.elim (hn.okx p) (h2.1 p),λp hp=>hp.elim (hn.oky p) (h2.2 p)⟩
 exact key _ hi
structure TrOk(a b:List Part):Prop where
 oka:cg a
 okb:cg b
 from_:bO a=bO b
 okx:cg (aI a b).1
 oky:cg (aI a b).2.1
 fx:bO (aI a b).1=fH b
 fy:bO (aI a b).2.1=fH a
 to:fH (aI a b).1=fH (aI a b).2.1
 ax:aZ (aI a b).1=nY (tA (aZ a) (aZ b)).1
 ay:aZ (aI a b).2.1=nY (tA (aZ a) (aZ b)).2
theorem sK{a b:List Part}(h:(aI a b).2.2=true):TrOk a b:=by
 unfold aI at h
 split at h
 ·rename_i h1
  split at h
  ·rename_i h2
   have e:aI a b=(normal (xf a b).1,normal (xf a b).2,true):=by unfold aI;rw[ai h1,ai h2]
   have hi:=DW h1.1 h1.2.1 h1.2.2;have hat:=aiV hi;have hk:=afi hi;have e1:aZ (xf a b).1=(tA (aZ a) (aZ b)).1:=by rw[<-hat]
   have e2:aZ (xf a b).2=(tA (aZ a) (aZ b)).2:=by rw[<-hat]
   have l:=y4 (aZ a) (aZ b) (by rw[<-oS,<-oS];exact hi.b);have n1:=jv hk.1;have n2:=jv hk.2;have f1:=od h2.1;have f2:=od h2.2;have t1:=vL h2.1;have t2:=vL h2.2;have t3:=vL h1.1;have t4:=vL h1.2.1;rw[oS,n1,AF,e1,l.1]at f1;rw[oS,n2,AF,e2,l.2.1]at f2;rw[qY h2.1.1.1,n1,AE,e1]at t1;rw[qY h2.2.1.1,n2,AE,e2]at t2;rw[qY h1.1.1.1]at t3;rw[qY h1.2.1.1.1]at t4;rw[e1]at n1;rw[e2]at n2;refine⟨h1.1,h1.2.1,h1.2.2,?_,?_,?_,?_,?_,?_,?_⟩<;>rw[e]
   ·exact h2.1
   ·exact h2.2
   ·exact nU
   ·exact nU
   ·simp only;have:=l.2.2;omega
   ·exact n1
   ·exact n2
  ·simp at h
 ·simp at h
end Go.Proofs.YtmccaifipoohfaaGreatDoor
