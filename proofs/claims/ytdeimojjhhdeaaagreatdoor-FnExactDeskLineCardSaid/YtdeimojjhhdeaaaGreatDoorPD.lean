import Derived.Test.YtdeimojjhhdeaaaGreatDoorPC
import Derived.Test.YtdeimojjhhdeaaaGreatDoorPB
import Derived.Test.YtdeimojjhhdeaaaGreatDoorNA
import Derived.Test.YtdeimojjhhdeaaaGreatDoorMF
import Derived.Test.YtdeimojjhhdeaaaGreatDoorPA
namespace Go.Proofs.YtdeimojjhhdeaaaGreatDoor
open Go.AM
set_option maxRecDepth 20000
set_option maxHeartbeats 1600000
noncomputable def jf:Rep->List Entry->Option Rep
 |r,[]=>some r
 |r,e::l=>if(eU r e).2=true then jf (eU r e).1 l else none
open Classical in
noncomputable def gD(r:Rep)(l:List Entry):Rep×Bool:=
 if db r then match jf r l with
  |some x=>(x,true)
  |none=>(Rep.zero,false)
 else(Rep.zero,false)
theorem vI{r:Rep}{e:Entry}(h:(eU r e).2=true):db r/\db (eU r e).1:=by
 have key:∀x:Rep,(lY x).2=true->db (lY x).1:=by
  intro x hx;by_cases hr:db x
  ·rw[pS hr];exact hr
  ·rw[ve hr]at hx;simp at hx
 unfold eU at h⊢
 split
 ·rename_i h1
  rw[al h1]at h;refine⟨h1.1,?_⟩
  split
  ·rename_i h2
   rw[al h2]at h;exact Sn
  ·rename_i h2
   rw[ak h2]at h;exact Sn
 ·rename_i h1
  rw[ak h1]at h;simp at h
theorem yj:∀(l:List Entry) (r x:Rep),jf r l=some x->l=[]/\x=r\/db r/\db x
 | [],r,x,h=>by simp[jf]at h;exact .inl ⟨rfl,h.symm⟩
 | e :: l, r, x, h => by
   unfold jf at h
   split at h
   ·rename_i h1
    have h2:=vI h1;rcases yj l _ x h with⟨-,rfl⟩|⟨-,h3⟩
    ·exact .inr h2
    ·exact .inr ⟨h2.1,h3⟩
   ·simp at h
theorem q8{r:Rep}(h:db r):cE r<=2^20:=by
 have h1:=tu h.2.2.2.2.1.1;have h2:=tu h.2.2.2.2.2.1.1;have h3:=h.2.2.2.1.1;unfold cE;omega
theorem XO(r:Rep)(l:List Entry):cE (gD r l).1<=2^20:=by
 unfold gD
 split
 ·rename_i h
  split
  ·rename_i x hx
   rcases yj l r x hx with⟨-,rfl⟩|⟨-,h2⟩
   ·exact q8 h
   ·exact q8 h2
  ·exact mT
 ·exact mT
theorem zj{l:List Entry}{i:Nat}{u:Rep}(h:i<l.length):jf u (l.drop i)=if(eU u l[i]).2=true then jf (eU u l[i]).1 (l.drop (i+1))else none:=by
 rw[bk h,jf]
theorem BN{l:List Entry}{i:Nat}{u:Rep}(h:l.length<=i):jf u (l.drop i)=some u:=by
 rw[bE h,jf]
theorem Ld(r:Rep)(hl:cE r<=2^28)(l:List Entry)(hx:nL ba l<=2^40):ar Tryz.prog 241 [.agg r.row,.c (.s (l.map Entry.row))] (.tup [.agg (gD r l).1.res,.c (.v (.bool (gD r l).2)) 1]):=by
 refine pci aq Tryz.func241 (λw0 base=>?_);have hle:=bB hx;simp[Rep.row];intro b2 b4;refine ae.pure (fU r aa) dB ?_;by_cases c1:db r
 rotate_left
 ·have e:gD r l=(Rep.zero,false):=by unfold gD;rw[ak c1]
  simp[aH c1,e,Rep.res,Rep.zero]
 have hf:gD r l=match jf r l with
  |some x=>(x,true)
  |none=>(Rep.zero,false):=by unfold gD;rw[al c1]
 simp[c1];refine ae.pure (sB r aa) dB ?_;simp[Rep.res];intro H3 H5 H6 b6
 refine aE eok (λx:(Nat×Rep×Nat)×Hd×Hd×Hd=>(x.1.2.2=256\/x.1.2.2=416)/\(x.1.1<=l.length/\jf x.1.2.1 (l.drop x.1.1)=jf r l)/\cE x.1.2.1<=2^28) (λx=>⟨35,0,[(19,.v (.int .i64 x.1.1)),(18,.v (.int .i64 l.length)),(17,.ro (l.map Entry.row)),(4,.p 64 b4 0),(6,.p 96 b6 0)],
  [(96, .vars b6 90 [.v (.int .i64 x.1.2.1.client), .v (.int .i64 x.1.2.1.seq), .v (.int .i64 x.1.2.1.rev), .sl (x.1.2.2+3) x.2.1 1 0 x.1.2.1.text.length, .v (.bool x.1.2.1.has), .sl (x.1.2.2+5) x.2.2.1 3 0 x.1.2.1.sent.length, .sl (x.1.2.2+6) x.2.2.2 3 0 x.1.2.1.buf.length]),
   (64,.vars b4 90 [.v (.int .i64 0),.v (.int .i64 0),.v (.int .i64 0),.nil,.v (.bool false),.nil,.nil]),
   (x.1.2.2+3,.rows x.2.1 1 (x.1.2.1.text.map aN) true),(x.1.2.2+5,.rows x.2.2.1 3 (x.1.2.1.sent.map Part.row) true),(x.1.2.2+6,.rows x.2.2.2 3 (x.1.2.1.buf.map Part.row) true)]⟩) (λx=>l.length-x.1.1) ((0,r,256),H3,H5,H6) aI ab (λx hx=>Ent.refl ?_)
 obtain⟨⟨i,u,k⟩,G3,G5,G6⟩:=x;obtain⟨hk,⟨hi,hu⟩,hn⟩:=hx;simp only at hk hi hu hn⊢;by_cases hlt:i<l.length
 ·have hm:=eA hx hlt
  rw[zj hlt]at hu;have hn2:=F6 u l[i];have hok:=vI (r:=u) (e:=l[i]);rcases hk with rfl|rfl
  all_goals
   simp[hlt,Entry.row];intro b8;refine ae.pure (HC u hn l[i] hm) (by simp[Rep.row,Entry.row]) ?_;generalize eU u l[i]=T at hu hn2 hok⊢;obtain⟨v,ok⟩:=T;simp only at hu hn2 hok⊢;simp[Rep.res];intro K3 K5 K6 b9
   cases ok with
   | false =>
     simp only[lT,dy]at hu;rw[<-hu]at hf;simp only at hf;simp[hf,Rep.zero]
   | true =>
     simp only[dA]at hu;have hv:=q8 (hok rfl).2;simp;refine Ent.refl ⟨i+1,v,416,⟨.inr rfl,⟨aa,hu⟩,aa⟩,aa,K3,K5,K6,?_⟩;exact pr
 ·rw[BN aa]at hu
  rw[<-hu]at hf;simp only at hf;rcases hk with rfl|rfl
  all_goals
   simp[hlt];simp[hf]
theorem zn(r:Rep)(hl:cE r<=2^28)(l:List Entry)(hx:nL ba l<=2^40):ar Tryz.prog 195 [.agg r.row,.c (.s (l.map Entry.row))] (.tup [.agg (gD r l).1.res,.c (.v (.bool (gD r l).2)) 1]):=by
 refine pci aq Tryz.func195 (λw0 base=>?_);have hle:=bB hx
 have hno:jf r l=none->gD r l=(Rep.zero,false):=by
  intro h;unfold gD;rw[h]
  split<;>rfl
 have hyes:∀u,jf r l=some u->gD r l=lY u:=by
  intro u h;unfold gD;rw[h];rcases yj l r u h with⟨-,rfl⟩|⟨h1,h2⟩
  ·rfl
  ·rw[al h1,pS h2]
 simp[Rep.row];intro b2 b4;refine ae.pure (sd r aa) dB ?_;simp[Rep.res];intro H3 H5 H6 b6
 refine aE eok (λx:(Nat×Rep×Nat)×Hd×Hd×Hd=>(x.1.2.2=192\/x.1.2.2=352)/\(x.1.1<=l.length/\jf x.1.2.1 (l.drop x.1.1)=jf r l)/\cE x.1.2.1<=2^28) (λx=>⟨34,0,[(15,.v (.int .i64 x.1.1)),(14,.v (.int .i64 l.length)),(13,.ro (l.map Entry.row)),(4,.p 64 b4 0),(6,.p 96 b6 0)],
  [(96, .vars b6 90 [.v (.int .i64 x.1.2.1.client), .v (.int .i64 x.1.2.1.seq), .v (.int .i64 x.1.2.1.rev), .sl (x.1.2.2+3) x.2.1 1 0 x.1.2.1.text.length, .v (.bool x.1.2.1.has), .sl (x.1.2.2+5) x.2.2.1 3 0 x.1.2.1.sent.length, .sl (x.1.2.2+6) x.2.2.2 3 0 x.1.2.1.buf.length]),
   (64,.vars b4 90 [.v (.int .i64 0),.v (.int .i64 0),.v (.int .i64 0),.nil,.v (.bool false),.nil,.nil]),
   (x.1.2.2+3,.rows x.2.1 1 (x.1.2.1.text.map aN) true),(x.1.2.2+5,.rows x.2.2.1 3 (x.1.2.1.sent.map Part.row) true),(x.1.2.2+6,.rows x.2.2.2 3 (x.1.2.1.buf.map Part.row) true)]⟩) (λx=>l.length-x.1.1) ((0,r,192),H3,H5,H6) aI ab (λx hx=>Ent.refl ?_)
 obtain⟨⟨i,u,k⟩,G3,G5,G6⟩:=x;obtain⟨hk,⟨hi,hu⟩,hn⟩:=hx;simp only at hk hi hu hn⊢;by_cases hlt:i<l.length
 ·have hm:=eA hx hlt
  rw[zj hlt]at hu;have hn2:=F6 u l[i];have hok:=vI (r:=u) (e:=l[i]);rcases hk with rfl|rfl
  all_goals
   simp[hlt,Entry.row];intro b8;refine ae.pure (G8 u hn l[i] hm) (by simp[Rep.row,Entry.row]) ?_;generalize eU u l[i]=T at hu hn2 hok⊢;obtain⟨v,ok⟩:=T;simp only at hu hn2 hok⊢;simp[Rep.res];intro K3 K5 K6 b9
   cases ok with
   | false =>
     simp only[lT,dy]at hu;have hf:=hno hu.symm;simp[hf,Rep.zero]
   | true =>
     simp only[dA]at hu;have hv:=q8 (hok rfl).2;simp;refine Ent.refl ⟨i+1,v,352,⟨.inr rfl,⟨aa,hu⟩,aa⟩,aa,K3,K5,K6,?_⟩;exact pr
 ·rw[BN aa]at hu
  rcases hk with rfl|rfl
  all_goals
   simp[hlt];refine inl aq Tryz.func189 20000 (λw1 F=>?_);simp;intros;refine ae.pure (fT u aa) dB ?_;have hf:=hyes u hu.symm;by_cases h:db u
   ·rw[pS h]at hf
    simp[h,hf]
   ·rw[ve h]at hf
    simp[aH h,hf,Rep.zero]
open Classical in
noncomputable def eC(r:Rep):Call×Bool:=if db r/\r.has=true then(oS r,true)else(Call.zero,false)
theorem CW(r:Rep)(hl:cE r<=2^20):ar Tryz.prog 126 [.agg r.row] (.tup [.agg (eC r).1.res,.c (.v (.bool (eC r).2)) 1]):=by
 refine pci aq Tryz.func126 (λw0 base=>?_);simp[Rep.row];intros;refine ae.pure (fU r aa) dB ?_;by_cases c1:db r
 rotate_left
 ·exact T8
 simp[c1]
 cases ch:r.has
 ·exact Tw
 ·have e:eC r=(oS r,true):=by unfold eC;rw[al ⟨c1,ch⟩]
  simp;refine ae.pure (EH r aa) (by simp[Rep.row,ch]) ?_;simp[e,Call.res,oS]
theorem CO(r:Rep)(hl:cE r<=2^20):ar Tryz.prog 81 [.agg r.row] (.tup [.agg (eC r).1.res,.c (.v (.bool (eC r).2)) 1]):=by
 refine pci aq Tryz.func81 (λw0 base=>?_);simp[Rep.row];intros;refine ae.pure (fT r aa) dB ?_;by_cases c1:db r
 rotate_left
 ·exact T8
 simp[c1]
 cases ch:r.has
 ·exact Tw
 ·have e:eC r=(oS r,true):=by unfold eC;rw[al ⟨c1,ch⟩]
  simp;refine ae.pure (IV r aa) (by simp[Rep.row,ch]) ?_;simp[e,Call.res,oS]
def aax(s:ByteArray)(i:Nat):Prop:=∀h:i<s.size,97<=s[i].toNat/\s[i].toNat<=122
theorem fc{d:Doc}{B:Nat}(h:cO d<=B):nL ba d.list<=B/\d.text.length<=B/\d.name.size<=B/\d.seen.length<=B:=by unfold cO at h;omega
def AX(d:Doc)(i:Nat):Prop:=∀h:i<d.seen.length,(1<=d.seen[i].client/\d.seen[i].client<=8)/\(1<=d.seen[i].seq/\d.seen[i].seq<=1000000000)/\(1<=d.seen[i].rev/\d.seen[i].rev<=aA d)/\(∀h0:0<i,d.seen[i-1].client<d.seen[i].client)
theorem HW{l:List (List Part)}{t:List Int}(h:el t):(et l t).2=true↔(bj l t).isSome=true:=by
 unfold et;rw[al h]
 cases bj l t<;>simp
theorem dD{d:Doc}(h:cf d):aA d=d.fr+d.list.length/\0<=d.fr/\d.fr<=999999000/\d.list.length<=8:=by
 have h1:=h.2.1;have h2:=h.2.2.2.1;refine⟨?_,h1.1,h1.2,h2⟩;unfold aA;rw[ah _ aa]
theorem AN{d:Doc}{rev:Int}(h:¬(cf d/\d.fr<=rev/\rev<=aA d)):eu d rev=([],false):=by unfold eu;rw[ak h]
theorem yi{d:Doc}{rev:Int}(h:cf d/\d.fr<=rev/\rev<=aA d):eu d rev=et ((d.list.take (rev-d.fr).toNat).map Entry.o) d.text:=by unfold eu;rw[al h]
theorem Bl{d:Doc}(n1:nL ba d.list<=2^30){o:List Part}{l:List Entry}(hl:∀e∈l,e∈d.list)(ho:o∈l.map Entry.o):nL aM o<=2^30:=by
 rw[cM]at ho;obtain⟨e,he,rfl⟩:=ho;have:=hQ n1 (hl e he);unfold ba at this;omega
theorem Im{α:Type}{f:α->Nat}:∀(l:List α) (k:Nat),dW f (l.take k)<=dW f l
 | [],k=>by simp[dW]
 |a::l,0=>by simp[dW]
 |a::l,k+1=>by have:=Im l k (f:=f);simp only[lg,dW];omega
theorem wQ{α:Type}{f:α->Nat}{l:List α}{k B:Nat}(h:nL f l<=B):nL f (l.take k)<=B:=by
 have:=Im l k (f:=f);unfold nL at h⊢;simp;omega
theorem vY:∀(l:List (List Part)) (t:List Int) (k:Nat),(bj l t).isSome=true->(bj (l.take k) t).isSome=true
 | [],_,_,h=>l8
 |o::l,t,0,h=>by simp[bj]
 | o :: l, t, k + 1, h => by
   rw[bj]at h;rw[lg,bj]
   split at h
   ·rename_i hh;rw[al hh];exact vY l _ k h
   ·simp at h
theorem N7{l:List (List Part)}{t u:List Int}(ht:el t)(h:bj l t=some u):et l t=(u,true):=by
 unfold et;rw[al ht,h]
theorem td(d:Doc)(c:Int):(∃i,∃h:i<d.seen.length,d.seen[i].client=c/\(∀j,j<i->∀hj:j<d.seen.length,d.seen[j].client≠c)/\eD d c=(d.seen[i],true))\/((∀j,∀hj:j<d.seen.length,d.seen[j].client≠c)/\eD d c=(⟨0,0,0⟩,false)):=by
 unfold eD
 cases h:d.seen.find? (λs=>decide (s.client=c))with
 | none =>
   right
   rw[List.find?_eq_none]at h;exact⟨λj hj=>by have:=h _ (ao hj);simpa using this,rfl⟩
 | some s =>
   left
   rw[List.find?_eq_some_iff_getElem]at h;obtain⟨h1,i,hi,h2,h3⟩:=h;refine⟨i,hi,by rw[h2];simpa using h1,λj hj hjl=>by have:=h3 j hj;simpa using this,by rw[h2]⟩
theorem u6{d:Doc}(h:cf d)(c:Int):0<=(eD d c).1.seq/\(eD d c).1.seq<=1000000000/\0<=(eD d c).1.rev/\(eD d c).1.rev<=aA d:=by
 have hh:=dD h;rcases td d c with⟨i,hi,-,-,e⟩|⟨-,e⟩
 ·rw[e]
  have:=h.2.2.2.2.2.2 i hi;exact gT
 ·rw[e]
  exact gT
def o7(r:Rep)(s:Seen):Prop:=if r.seq=s.seq then ¬(r.has=true/\s.rev<=r.rev)else r.has=true/\r.seq=s.seq+1
def oL(d:Doc)(i:Nat)(r:Rep):Prop:=db r/\r.client=i+1/\r.rev<=aA d/\((eu d r.rev).2=true->(eu d r.rev).1=r.text)/\o7 r (eD d r.client).1
def gz(n:Net):Prop:=cf n.d/\(1<=n.reps.length/\n.reps.length<=4)/\∀i,∀h:i<n.reps.length,oL n.d i n.reps[i]
theorem nK(d:Doc)(rev:Int):(eu d rev).1.length<=2^30:=by
 by_cases h:cf d/\d.fr<=rev/\rev<=aA d
 ·rw[yi h]
  unfold et
  split
  ·split
   ·rename_i u hu
    have key:∀(l:List (List Part)) (t:List Int),t.length<=2^30->∀u,bj l t=some u->u.length<=2^30:=by
     intro l
     induction l with
     |nil=>intro t ht u hu;simp[bj]at hu;subst hu;exact ht
     | cons o l ih =>
       intro t ht u hu;rw[bj]at hu
       split at hu
       ·exact ih _ (by have:=lM o t;omega) u hu
       ·simp at hu
    exact key _ _ (by have:=h.1.2.2.1.1;omega) _ hu
   ·simp
  ·simp
 ·rw[AN h];simp
def Doc.zero:Doc:=⟨⟨#[]⟩,0,[],[],[]⟩
def Net.zero:Net:=⟨Doc.zero,[]⟩
theorem Doc.zero_n:cO Doc.zero=0:=rfl
def ju(name:ByteArray)(t:List Int):Doc:=⟨name,0,t,[],[]⟩
open Classical in
noncomputable def gY(name:ByteArray)(t:List Int):Doc×Bool:=if cf (ju name t)then(ju name t,true)else(Doc.zero,false)
theorem PW(name:ByteArray)(t:List Int):cO (ju name t)=name.size+t.length:=by simp[cO,ju,nL,dW]
noncomputable def lD(t:List Int)(k:Nat):List Rep:=(List.range k).map λi:Nat=>(fe ((i:Int)+1) 0 0 t).1
open Classical in
noncomputable def gX(name:ByteArray)(t:List Int)(many:Int):Net×Bool:=if(gY name t).2=true/\1<=many/\many<=4 then(⟨(gY name t).1,lD t many.toNat⟩,true)else(Net.zero,false)
theorem vm(t:List Int)(i:Nat):lD t (i+1)=lD t i++[(fe ((i:Int)+1) 0 0 t).1]:=by simp[lD,List.range_succ]
theorem ra(t:List Int)(i:Nat):(lD t i).length=i:=by simp[lD]
theorem yE{name:ByteArray}{t:List Int}{many:Int}(h:¬((gY name t).2=true/\1<=many/\many<=4)):gX name t many=(Net.zero,false):=by unfold gX;rw[ak h]
theorem vK{name:ByteArray}{t:List Int}{many:Int}(h:(gY name t).2=true/\1<=many/\many<=4):gX name t many=(⟨(gY name t).1,lD t many.toNat⟩,true):=by unfold gX;rw[al h]
theorem I8(a b c:Int)(t:List Int):cE (fe a b c t).1<=t.length+2:=by
 unfold fe;exact D5 (AZ a b c t)
theorem IL(t:List Int):∀k:Nat,nL cE (lD t k)<=k*(t.length+3)
 |0=>by simp[lD,nL,dW]
 | k + 1 => by
   have ih:=IL t k;have h:=I8 ((k:Int)+1) 0 0 t;rw[vm];unfold nL at ih⊢;rw[kP,dU];simp only[dW,bH,jd];have:(k+1)*(t.length+3)=k*(t.length+3)+(t.length+3):=cL _ _;omega
def pG(n:Net):Prop:=∀r∈n.reps,ik r/\r.rev=aA n.d
theorem cX(d:Doc):ar Tryz.prog 85 [.agg d.row] (.one (.c (vi (aA d)) 1)):=by
 refine pci aq Tryz.func85 (λw0 base=>?_);simp[Doc.row,aA]
theorem Hc(n:Net)(hl:fj n<=2^40):ar Tryz.prog 88 [.agg n.row] (.one (.c (vb (pG n)) 1)):=by
 refine pci aq Tryz.func88 (λw0 base=>?_);obtain⟨d,l⟩:=n;unfold fj at hl;simp only at hl;have hle:=bB (f:=cE) (B:=2^40) (l:=l) aa;simp[Net.row];intro b1
 refine aU.intro eok (λi:Nat=>i<=l.length/\∀r∈l.take i,ik r/\r.rev=aA d) (λi=>⟨24,0,[(1,.p 16 b1 0),(8,.v (.int .i64 i)),(7,.v (.int .i64 l.length)),(6,.ro (l.map Rep.row))],
  [(16,.vars b1 47 [.v (.string d.name),.v (.int .i64 d.fr),.ro (d.text.map aN),.ro (d.list.map Entry.row),.ro (d.seen.map Seen.row),.ro (l.map Rep.row)])]⟩) (λi=>l.length-i) 0 ab ab (λi hi=>?_)
 by_cases hlt:i<l.length
 ·have hm:=hQ (f:=cE) (B:=2^40) (l:=l) aa (ao hlt)
  have hne:∀h:¬(ik l[i]/\l[i].rev=aA d),¬pG ⟨d,l⟩:=λh hn=>h (hn l[i] (ao hlt))
  simp[hlt,Rep.row];intro b4;refine cg.quiet eok mix ai ?_;simp;refine⟨_,_,EP l[i] hm,dB,?_⟩;by_cases c1:ik l[i]
  ·simp[c1]
   refine⟨_,_,cX d,aS,?_⟩;exact UK
  ·exact TV
 ·exact SR
theorem cY(d:Doc):ar Tryz.prog 130 [.agg d.row] (.one (.c (vi (aA d)) 1)):=by
 refine pci aq Tryz.func130 (λw0 base=>?_);simp[Doc.row,aA]
theorem HF(n:Net)(hl:fj n<=2^40):ar Tryz.prog 144 [.agg n.row] (.one (.c (vb (pG n)) 1)):=by
 refine pci aq Tryz.func144 (λw0 base=>?_);obtain⟨d,l⟩:=n;unfold fj at hl;simp only at hl;have hle:=bB (f:=cE) (B:=2^40) (l:=l) aa;simp[Net.row];intro b1
 refine aU.intro eok (λi:Nat=>i<=l.length/\∀r∈l.take i,ik r/\r.rev=aA d) (λi=>⟨24,0,[(1,.p 16 b1 0),(8,.v (.int .i64 i)),(7,.v (.int .i64 l.length)),(6,.ro (l.map Rep.row))],
  [(16,.vars b1 47 [.v (.string d.name),.v (.int .i64 d.fr),.ro (d.text.map aN),.ro (d.list.map Entry.row),.ro (d.seen.map Seen.row),.ro (l.map Rep.row)])]⟩) (λi=>l.length-i) 0 ab ab (λi hi=>?_)
 by_cases hlt:i<l.length
 ·have hm:=hQ (f:=cE) (B:=2^40) (l:=l) aa (ao hlt)
  have hne:∀h:¬(ik l[i]/\l[i].rev=aA d),¬pG ⟨d,l⟩:=λh hn=>h (hn l[i] (ao hlt))
  simp[hlt,Rep.row];intro b4;refine cg.quiet eok mix ai ?_;simp;refine⟨_,_,FQ l[i] hm,dB,?_⟩;by_cases c1:ik l[i]
  ·simp[c1]
   refine⟨_,_,cY d,aS,?_⟩;exact UK
  ·exact TV
 ·exact SR
theorem tL(s:ByteArray)(hl:s.size<=2^40):ar Tryz.prog 220 [.c (.v (.string s))] (.one (.c (vb (mn s)) 1)):=by
 refine pci aq Tryz.func220 (λw0 base=>?_);simp;refine aU.intro eok (λi:Nat=>i<=s.size/\∀j,j<i->aax s j) (λi=>⟨23,0,[(3,.v (.int .i64 i)),(0,.v (.string s))],[]⟩) (λi=>s.size-i) 0 ab ab (λi hi=>?_);by_cases hlt:i<s.size
 ·exact UR
 ·simp[hlt]
  refine ae.pure (bW s.size 1 8) ab ?_;exact UM
theorem zq(s:ByteArray)(hl:s.size<=2^40):ar Tryz.prog 175 [.c (.v (.string s))] (.one (.c (vb (mn s)) 1)):=by
 refine pci aq Tryz.func175 (λw0 base=>?_);simp;refine aU.intro eok (λi:Nat=>i<=s.size/\∀j,j<i->aax s j) (λi=>⟨23,0,[(3,.v (.int .i64 i)),(0,.v (.string s))],[]⟩) (λi=>s.size-i) 0 ab ab (λi hi=>?_);by_cases hlt:i<s.size
 ·exact UR
 ·simp[hlt]
  refine ae.pure (dH s.size 1 8) ab ?_;exact UM
theorem KR(l:List Entry)(hl:nL ba l<=2^30):ar Tryz.prog 307 [.c (.s (l.map Entry.row))] (.one (.c (.s ((l.map Entry.o).map hJ)) 1)):=by
 refine pci aq Tryz.func307 (λw0 base=>?_);have hle:=bB hl;simp;refine aE eok (λx:Nat×Hd=>x.1<=l.length) (λx=>⟨20,0,[(8,.v (.int .i64 x.1)),(7,.v (.int .i64 l.length)),(6,.ro (l.map Entry.row)),(3,.sl 5000 x.2 1 0 x.1)],[(5000,.rows x.2 1 (((l.take x.1).map Entry.o).map hJ) true)]⟩) (λx=>l.length-x.1) (0,none) ab ab (λx hx=>Ent.refl ?_);obtain⟨i,H⟩:=x;simp only at hx⊢;by_cases hlt:i<l.length
 ·have hm:=eA hl hlt
  unfold ba at hm;simp[hlt,Entry.row];intro b5;refine ae.pure (vT l[i].o hm) ab ?_;exact Un
 ·have e:l.length=i:=by omega
  simp[hlt];have e1:i<=min i l.length:=aa;refine⟨e1,?_,?_⟩
  ·intro row hr
   have:=bN hr;exact DI
  ·exact J1
theorem jk(d:Doc)(hl:cO d<=2^30):ar Tryz.prog 212 [.agg d.row] (.one (.c (vb (cf d)) 1)):=by
 refine pci aq Tryz.func212 (λw0 base=>?_);obtain⟨n1,n2,n3,n4⟩:=fc hl;have hle:=bB n1;simp[Doc.row];intro b1;refine ae.pure (tL d.name aa) ab ?_;by_cases c1:mn d.name
 rotate_left
 ·have h:¬cf d:=λh=>c1 h.1
  exact oj
 simp[c1];refine ae.pure (bW d.fr 0 999999000) ab ?_;by_cases c2:0<=d.fr/\d.fr<=999999000
 rotate_left
 ·have h:¬cf d:=λh=>c2 h.2.1
  exact wx
 simp[c2];refine ae.pure (lF d.text aa) ab ?_;by_cases c3:el d.text
 rotate_left
 ·have h:¬cf d:=λh=>c3 h.2.2.1
  simp[aH c3,aH h]
 simp[c3];by_cases c4:d.list.length<=8
 rotate_left
 ·exact SK
 have c4':¬8<(d.list.length:Int):=aa;simp[c4']
 refine aU.intro eok (λi:Nat=>i<=d.list.length/\∀e∈d.list.take i,dr e) (λi=>⟨96,0,[(34,.v (.int .i64 i)),(33,.v (.int .i64 d.list.length)),(32,.ro (d.list.map Entry.row)),(1,.p 16 b1 0)],
  [(16,.vars b1 44 [.v (.string d.name),.v (.int .i64 d.fr),.ro (d.text.map aN),.ro (d.list.map Entry.row),.ro (d.seen.map Seen.row)])]⟩) (λi=>d.list.length-i) 0 ab ab (λi hi=>?_)
 by_cases hlt:i<d.list.length
 ·have hm:=eA n1 hlt
  simp[hlt,Entry.row];intro b4;refine ae.pure (ow d.list[i] aa) ix ?_;by_cases c5:dr d.list[i]
  ·exact Kd
  ·have h:¬cf d:=λh=>c5 (h.2.2.2.2.1 _ (ao hlt))
   simp[aH c5,aH h]
 have c5:∀e∈d.list,dr e:=uc aa hi.2;simp[hlt];refine cg.quiet eok mix ai ?_;simp;refine⟨_,_,KR d.list n1,ab,?_⟩;simp
 have hops:∀o∈d.list.map Entry.o,nL aM o<=2^40:=by
  intro o ho;rw[cM]at ho;obtain⟨e,he,rfl⟩:=ho;have:=hQ n1 he;unfold ba at this;omega
 refine⟨_,_,qd (d.list.map Entry.o) d.text aI hops aa,ab,?_⟩;have hsome:=HW (l:=d.list.map Entry.o) c3;generalize et (d.list.map Entry.o) d.text=A at hsome⊢;obtain⟨u,ok⟩:=A;simp only at hsome⊢
 cases ok with
 | false =>
   have h:¬cf d:=λh=>by have:=hsome.2 h.2.2.2.2.2.1;simp at this
   simp[aH h]
 | true =>
   have c6:=hsome.1 rfl;simp;have hno:∀i,¬AX d i->¬cf d:=λi h hd=>h (λhh=>hd.2.2.2.2.2.2 i hh)
   refine aU.intro eok (λi:Nat=>i<=d.seen.length/\∀j,j<i->AX d j) (λi=>⟨96,0,[(56,.v (.int .i64 i)),(55,.v (.int .i64 d.seen.length)),(54,.ro (d.seen.map Seen.row)),(1,.p 16 b1 0)],
    [(16,.vars b1 44 [.v (.string d.name),.v (.int .i64 d.fr),.ro (d.text.map aN),.ro (d.list.map Entry.row),.ro (d.seen.map Seen.row)])]⟩) (λi=>d.seen.length-i) 0 ab ab (λi hi=>?_)
   by_cases hlt:i<d.seen.length
   rotate_left
   ·exact R6
   obtain⟨x,hx⟩:∃x,d.seen[i]=x:=⟨_,rfl⟩;simp[hlt,hx,Seen.row];intro b8;refine cg.quiet eok mix ai ?_;simp;refine⟨_,_,bW x.client 1 8,ab,?_⟩;by_cases s1:1<=x.client/\x.client<=8
   rotate_left
   ·exact Sb
   simp[s1]
   have fin:(∀h0:0<i,d.seen[i-1].client<x.client)->(1<=x.seq/\x.seq<=1000000000)->(1<=x.rev/\x.rev<=aA d)->∀j,j<i+1->AX d j:=by
    exact S5
   have noq:¬(1<=x.seq/\x.seq<=1000000000)->¬cf d:=λs2=>hno i (λh=>s2 Dh)
   have nor:¬(1<=x.rev/\x.rev<=aA d)->¬cf d:=λs2=>hno i (λh=>s2 (by have:=(h hlt).2.2.1;rwa[hx]at this))
   cases i with
   | zero =>
     simp;refine⟨_,_,bW x.seq 1 1000000000,ab,?_⟩;by_cases s2:1<=x.seq/\x.seq<=1000000000
     rotate_left
     ·simp[aH s2,aH (noq s2)]
     simp[s2];refine⟨_,_,cY d,aS,?_⟩;simp;refine⟨_,_,bW x.rev 1 (aA d),ab,?_⟩;by_cases s3:1<=x.rev/\x.rev<=aA d
     rotate_left
     ·simp[aH s3,aH (nor s3)]
     simp[s3];exact RG
   | succ k =>
     have ek:Go.IntKind.i64.wrap (k:Int)=k:=gb aa;have hk1:k<d.seen.length:=aa;have hk0:(0:Int)<(k:Int)+1:=aa;obtain⟨y,hy⟩:∃y,d.seen[k]=y:=⟨_,rfl⟩;simp[ek,hk0,hk1,hy,Seen.row];by_cases s4:y.client<x.client
     rotate_left
     ·exact Ul
     have s4':¬x.client<=y.client:=aa;simp[s4'];refine⟨_,_,bW x.seq 1 1000000000,ab,?_⟩;by_cases s2:1<=x.seq/\x.seq<=1000000000
     rotate_left
     ·simp[aH s2,aH (noq s2)]
     simp[s2];refine⟨_,_,cY d,aS,?_⟩;simp;refine⟨_,_,bW x.rev 1 (aA d),ab,?_⟩;by_cases s3:1<=x.rev/\x.rev<=aA d
     rotate_left
     ·simp[aH s3,aH (nor s3)]
     simp[s3];exact TT
theorem jh(d:Doc)(hl:cO d<=2^30):ar Tryz.prog 166 [.agg d.row] (.one (.c (vb (cf d)) 1)):=by
 refine pci aq Tryz.func166 (λw0 base=>?_);obtain⟨n1,n2,n3,n4⟩:=fc hl;have hle:=bB n1;simp[Doc.row];intro b1;refine ae.pure (zq d.name aa) ab ?_;by_cases c1:mn d.name
 rotate_left
 ·have h:¬cf d:=λh=>c1 h.1
  exact oj
 simp[c1];refine ae.pure (dH d.fr 0 999999000) ab ?_;by_cases c2:0<=d.fr/\d.fr<=999999000
 rotate_left
 ·have h:¬cf d:=λh=>c2 h.2.1
  exact wx
 simp[c2];refine ae.pure (lA d.text aa) ab ?_;by_cases c3:el d.text
 rotate_left
 ·have h:¬cf d:=λh=>c3 h.2.2.1
  simp[aH c3,aH h]
 simp[c3];by_cases c4:d.list.length<=8
 rotate_left
 ·exact SK
 have c4':¬8<(d.list.length:Int):=aa;simp[c4']
 refine aE eok (λx:Nat×List Int=>x.1<=d.list.length/\(∀e∈d.list.take x.1,dr e)/\el x.2/\bj ((d.list.map Entry.o).drop x.1) x.2=bj (d.list.map Entry.o) d.text) (λx=>⟨105,0,[(37,.v (.int .i64 x.1)),(36,.v (.int .i64 d.list.length)),(35,.ro (d.list.map Entry.row)),(3,.ro (x.2.map aN)),(1,.p 16 b1 0)],
  [(16,.vars b1 44 [.v (.string d.name),.v (.int .i64 d.fr),.ro (d.text.map aN),.ro (d.list.map Entry.row),.ro (d.seen.map Seen.row)])]⟩) (λx=>d.list.length-x.1) (0,d.text) ⟨ab,ab,c3,ab⟩ ab (λx hi=>Ent.refl ?_)
 obtain⟨i,t⟩:=x;obtain⟨hi1,hi2,hi3,hi4⟩:=hi;simp only at hi1 hi2 hi3 hi4⊢;by_cases hlt:i<d.list.length
 ·have hm:=eA n1 hlt
  have hmo:=sx (e:=d.list[i]) aa;rw[nq (show i<(d.list.map Entry.o).length from sT)]at hi4;simp only[nG]at hi4;have hyes:=@mK d.list[i].o t;have htok:=@pP d.list[i].o t;obtain⟨e,he⟩:∃e,d.list[i]=e:=⟨_,rfl⟩;have hmem:e∈d.list:=he ▸ ao hlt;have c5':dr e->∀e∈d.list.take (i+1),dr e:=λh=>Ef hlt hi2 (he ▸ h)
  rw[he]at hi4 hyes htok hm hmo;simp[hlt,he,Entry.row];intro b5;refine ae.pure (kT e.o t hmo (by have:=hi3.1;omega)) ab ?_;generalize apply e.o t=A at hi4 hyes htok⊢;obtain⟨u,ok⟩:=A;simp only at hi4 hyes htok⊢;simp;intro H1
  cases ok with
  | false =>
    have h:¬cf d:=λh=>by have:=h.2.2.2.2.2.1;rw[<-hi4]at this;simp at this
    simp[aH h]
  | true =>
    simp only[dA]at hi4;have hu:=(htok (hyes.1 rfl)).1;simp;refine ae.pure (oq e aa) ix ?_;by_cases c5:dr e
    rotate_left
    ·have h:¬cf d:=λh=>c5 (h.2.2.2.2.1 _ hmem)
     simp[aH c5,aH h]
    simp[c5];refine ae.pure (lA u (by have:=hu.1;omega)) ab ?_;simp[hu];refine qu 3 720 (sz:=1) (off:=0) (len:=u.length) (H:=H1) (rows:=u.map aN) (own:=true) ab ab ab (Ent.refl ⟨i+1,u,⟨aa,c5' c5,hu,hi4⟩,aa,?_⟩);exact pr
 ·have c5:∀e∈d.list,dr e:=uc aa hi2
  have c6:(bj (d.list.map Entry.o) d.text).isSome=true:=by
   rw[<-hi4,bE aI];simp[bj]
  simp[hlt];have hno:∀i,¬AX d i->¬cf d:=λi h hd=>h (λhh=>hd.2.2.2.2.2.2 i hh)
  refine aU.intro eok (λi:Nat=>i<=d.seen.length/\∀j,j<i->AX d j) (λi=>⟨105,0,[(65,.v (.int .i64 i)),(64,.v (.int .i64 d.seen.length)),(63,.ro (d.seen.map Seen.row)),(1,.p 16 b1 0)],
   [(16,.vars b1 44 [.v (.string d.name),.v (.int .i64 d.fr),.ro (d.text.map aN),.ro (d.list.map Entry.row),.ro (d.seen.map Seen.row)])]⟩) (λi=>d.seen.length-i) 0 ab ab (λi hi=>?_)
  by_cases hlt:i<d.seen.length
  rotate_left
  ·exact R6
  obtain⟨x,hx⟩:∃x,d.seen[i]=x:=⟨_,rfl⟩;simp[hlt,hx,Seen.row];intro b8;refine cg.quiet eok mix ai ?_;simp;refine⟨_,_,dH x.client 1 8,ab,?_⟩;by_cases s1:1<=x.client/\x.client<=8
  rotate_left
  ·exact Sb
  simp[s1]
  have fin:(∀h0:0<i,d.seen[i-1].client<x.client)->(1<=x.seq/\x.seq<=1000000000)->(1<=x.rev/\x.rev<=aA d)->∀j,j<i+1->AX d j:=by
   exact S5
  have noq:¬(1<=x.seq/\x.seq<=1000000000)->¬cf d:=λs2=>hno i (λh=>s2 Dh)
  have nor:¬(1<=x.rev/\x.rev<=aA d)->¬cf d:=λs2=>hno i (λh=>s2 (by have:=(h hlt).2.2.1;rwa[hx]at this))
  refine⟨_,_,dH x.seq 1 1000000000,ab,?_⟩;by_cases s2:1<=x.seq/\x.seq<=1000000000
  rotate_left
  ·simp[aH s2,aH (noq s2)]
  simp[s2];refine⟨_,_,cX d,aS,?_⟩;simp;refine⟨_,_,dH x.rev 1 (aA d),ab,?_⟩;by_cases s3:1<=x.rev/\x.rev<=aA d
  rotate_left
  ·simp[aH s3,aH (nor s3)]
  simp[s3]
  cases i with
  | zero =>
    simp;exact RG
  | succ k =>
    have ek:Go.IntKind.i64.wrap (k:Int)=k:=gb aa;have hk1:k<d.seen.length:=aa;have hk0:(0:Int)<(k:Int)+1:=aa;obtain⟨y,hy⟩:∃y,d.seen[k]=y:=⟨_,rfl⟩;simp[ek,hk0,hk1,hy,Seen.row];by_cases s4:y.client<x.client
    rotate_left
    ·exact Ul
    have s4':¬x.client<=y.client:=aa;simp[s4'];exact TT
theorem ni(d:Doc)(hl:cO d<=2^30)(rev:Int):ar Tryz.prog 214 [.agg d.row,.c (vi rev)] (.tup [.c (.s ((eu d rev).1.map aN)) 1,.c (.v (.bool (eu d rev).2)) 1]):=by
 refine pci aq Tryz.func214 (λw0 base=>?_);obtain⟨n1,n2,n3,n4⟩:=fc hl;simp[Doc.row];intro b2;refine cg.quiet eok mix ai ?_;simp;refine⟨_,_,jk d hl,aS,?_⟩;by_cases c1:cf d
 rotate_left
 ·exact Rf
 simp[c1];refine⟨_,_,cY d,aS,?_⟩;simp;refine⟨_,_,bW rev d.fr (aA d),ab,?_⟩;by_cases c2:d.fr<=rev/\rev<=aA d
 rotate_left
 ·exact Re
 have e:=yi ⟨c1,c2⟩;have hh:=dD c1;obtain⟨k,hk⟩:∃k:Nat,rev-d.fr=k:=⟨(rev-d.fr).toNat,aa⟩;have hkl:k<=d.list.length:=aa;have ew:Go.IntKind.i64.wrap (rev-d.fr)=(k:Int):=by rw[ah _ aa];omega
 rw[hk]at e;simp only[bm]at e
 have hcut:cut (d.list.map Entry.row) 0 k=(d.list.take k).map Entry.row:=by
  exact Sr
 simp[c2];refine drw eok mix [0,1,2,3,4,5,6,8,9] [7,10,11,12,13,14] (.c 9 7 4 507 (.c 9 10 1 506 (.c 9 11 0 506 (.c 9 12 0 506 (.c 9 13 506 0 (.c 9 14 0 0 (.l 9 0) .s) .s) .s) .s) .s) .s) ?_;simp[ew,hkl,hcut]
 try intros
 refine ae.pure (KR (d.list.take k) (wQ n1)) ab ?_;simp
 try intros
 refine ae.pure (qd ((d.list.take k).map Entry.o) d.text aI (λo ho=>by have:=Bl n1 (λe he=>bN he) ho;omega) aa) (by simp) ?_;simp
 try intros
 simp[e]
theorem mV(d:Doc)(hl:cO d<=2^30)(rev:Int):ar Tryz.prog 169 [.agg d.row,.c (vi rev)] (.tup [.c (.s ((eu d rev).1.map aN)) 1,.c (.v (.bool (eu d rev).2)) 1]):=by
 refine pci aq Tryz.func169 (λw0 base=>?_);obtain⟨n1,n2,n3,n4⟩:=fc hl;simp[Doc.row];intro b2;refine cg.quiet eok mix ai ?_;simp;refine⟨_,_,jh d hl,aS,?_⟩;by_cases c1:cf d
 rotate_left
 ·exact Rf
 simp[c1];refine⟨_,_,cX d,aS,?_⟩;simp;refine⟨_,_,dH rev d.fr (aA d),ab,?_⟩;by_cases c2:d.fr<=rev/\rev<=aA d
 rotate_left
 ·exact Re
 have e:=yi ⟨c1,c2⟩;have hh:=dD c1;obtain⟨k,hk⟩:∃k:Nat,rev-d.fr=k:=⟨(rev-d.fr).toNat,aa⟩;have hkl:k<=d.list.length:=aa;have ew:Go.IntKind.i64.wrap (rev-d.fr)=(k:Int):=by rw[ah _ aa];omega
 rw[hk]at e;simp only[bm]at e
 have hcut:cut (d.list.map Entry.row) 0 k=(d.list.take k).map Entry.row:=by
  exact Sr
 obtain⟨l,hlk⟩:∃l,d.list.take k=l:=⟨_,rfl⟩;have hll:l.length=k:=by rw[<-hlk];simp;omega
 rw[hlk]at e hcut;have hmem:∀e∈l,e∈d.list:=λe he=>by rw[<-hlk]at he;exact bN he
 have hsome:=vY (d.list.map Entry.o) d.text k c1.2.2.2.2.2.1;rw[<-eO,hlk,oR]at hsome;obtain⟨u,hu⟩:=hsome;rw[N7 c1.2.2.1 hu]at e;simp[c2];intro b21;refine⟨aa,λH24=>?_⟩;simp[ew,hkl,hcut,hll]
 refine aE eok (λx:(Nat×List Int×Nat)×Hd=>(x.1.2.2=336\/x.1.2.2=656)/\x.1.1<=k/\x.1.2.1.length<=2^30/\bj ((l.map Entry.o).drop x.1.1) x.1.2.1=some u) (λx=>⟨46,0,[(33,.v (.int .i64 x.1.1)),(32,.v (.int .i64 k)),(31,.ro (l.map Entry.row)),(6,.sl x.1.2.2 x.2 1 0 x.1.2.1.length)],
  [(x.1.2.2,.rows x.2 1 (x.1.2.1.map aN) true)]⟩) (λx=>k-x.1.1) ((0,d.text,336),H24) ⟨.inl rfl,ab,kG,by simpa using hu⟩ ab (λx hi=>Ent.refl ?_)
 obtain⟨⟨i,t,kk⟩,H⟩:=x;obtain⟨hkk,hi1,hi2,hi3⟩:=hi;simp only at hkk hi1 hi2 hi3⊢;by_cases hlt:i<k
 ·have hlt':i<l.length:=by omega
  have hm:=Bl n1 hmem (uJ (f:=Entry.o) (ao hlt'));rw[nq (show i<(l.map Entry.o).length by simpa using hlt')]at hi3;simp only[nG]at hi3;have hal:=lM l[i].o t;rcases hkk with rfl|rfl
  all_goals
   simp[hlt,hlt',Entry.row];intro b8;refine ae.pure (kT l[i].o t aa aa) ab ?_;generalize apply l[i].o t=A at hi3 hal⊢;obtain⟨v,ok⟩:=A;simp only at hi3 hal⊢;simp;intro H1
   cases ok with
   |false=>simp at hi3
   | true =>
     simp only[dA]at hi3;refine Ent.refl ⟨i+1,v,656,⟨.inr rfl,aa,aa,hi3⟩,aa,H1,?_⟩;exact pr
 ·have hi4:t=u:=by
   rw[bE aI]at hi3
   simpa[bj]using hi3
  subst hi4;rcases hkk with rfl|rfl
  all_goals
   simp[hlt,e]
theorem pH(d:Doc)(hl:cO d<=2^40)(c:Int):ar Tryz.prog 128 [.agg d.row,.c (vi c)] (.tup [.agg (eD d c).1.res,.c (.v (.bool (eD d c).2)) 1]):=by
 refine pci aq Tryz.func128 (λw0 base=>?_);exact U9
theorem pB(d:Doc)(hl:cO d<=2^40)(c:Int):ar Tryz.prog 83 [.agg d.row,.c (vi c)] (.tup [.agg (eD d c).1.res,.c (.v (.bool (eD d c).2)) 1]):=by
 refine pci aq Tryz.func83 (λw0 base=>?_);exact U9
theorem vz(n:Net)(hl:fj n<=2^30):ar Tryz.prog 103 [.agg n.row] (.one (.c (vb (gz n)) 1)):=by
 refine pci aq Tryz.func103 (λw0 base=>?_);obtain⟨d,l⟩:=n;unfold fj at hl;simp only at hl;have hle:=bB (f:=cE) (B:=2^40) (l:=l) aa;simp[Net.row];intro b1;refine ae.pure (jk d aa) aS ?_;by_cases c1:cf d
 rotate_left
 ·have h:¬gz ⟨d,l⟩:=λh=>c1 h.1
  exact oj
 simp[c1];refine ae.pure (bW l.length 1 4) ab ?_;by_cases c2:1<=l.length/\l.length<=4
 rotate_left
 ·exact TN
 have c2':1<=(l.length:Int)/\(l.length:Int)<=4:=aa;have hh:=dD c1;simp[c2']
 refine aE eok (λi:Nat=>i<=l.length/\∀j,j<i->∀h:j<l.length,oL d j l[j]) (λi=>⟨98,0,[(23,.v (.int .i64 i)),(22,.v (.int .i64 l.length)),(21,.ro (l.map Rep.row)),(1,.p 16 b1 0)],
  [(16,.vars b1 47 [.v (.string d.name),.v (.int .i64 d.fr),.ro (d.text.map aN),.ro (d.list.map Entry.row),.ro (d.seen.map Seen.row),.ro (l.map Rep.row)])]⟩) (λi=>l.length-i) 0 ab ab (λi hi=>Ent.refl ?_)
 by_cases hlt:i<l.length
 rotate_left
 ·exact Sv
 have hm:=hQ (f:=cE) (B:=2^30) (l:=l) aa (ao hlt);obtain⟨r,hr⟩:∃r,l[i]=r:=⟨_,rfl⟩;have hno:¬oL d i r->¬gz ⟨d,l⟩:=λh hn=>h (hr ▸ hn.2.2 i hlt)
 rw[hr]at hm;have ew:Go.IntKind.i64.wrap ((i:Int)+1)=(i:Int)+1:=ah _ aa;have hdn:cO d<=2^30:=aa;have htext:r.text.length<=2^30:=by unfold cE at hm;omega
 simp[hlt,hr,Rep.row];intro b4;refine cg.quiet eok mix ai ?_;simp;refine⟨_,_,fU r aa,dB,?_⟩;by_cases s1:db r
 rotate_left
 ·simp[aH s1,aH (hno (λh=>s1 h.1))]
 simp[s1,ew];by_cases s2:r.client=i+1
 rotate_left
 ·simp[s2,ew,aH (hno (λh=>s2 h.2.1))]
 simp[s2,ew];refine⟨_,_,cY d,aS,?_⟩;by_cases s3:r.rev<=aA d
 rotate_left
 ·exact Rv
 have s3':¬aA d<r.rev:=aa;simp[s3'];refine ae.pure (ni d hdn r.rev) aS ?_;have htl:=nK d r.rev
 have hra:oL d i r↔((eu d r.rev).2=true->(eu d r.rev).1=r.text)/\o7 r (eD d ((i:Int)+1)).1:=by
  rw[<-s2];exact⟨λh=>h.2.2.2,λh=>⟨s1,s2,s3,h⟩⟩
 have hsb:=u6 c1 ((i:Int)+1)
 have fin:oL d i r->∀j,j<i+1->∀h:j<l.length,oL d j l[j]:=by
  exact Sf
 have hseq:=s1.2.1;generalize eu d r.rev=T at htl hra⊢;obtain⟨t,ok⟩:=T;simp only at htl hra⊢;simp;intro H1;have hsn:∀S:Seen,0<=S.seq->S.seq<=1000000000->Go.IntKind.i64.wrap (S.seq+1)=S.seq+1:=λS h1 h2=>ah _ aa
 have hcase:ok=false\/(ok=true/\t≠r.text)\/(ok=true/\t=r.text):=by
  exact TH
 rcases hcase with rfl|⟨rfl,ht⟩|⟨rfl,ht⟩
 ·simp
  refine ae.pure (pH d aa ((i:Int)+1)) (by simp[Doc.row,s2]) ?_;exact Vd
 ·simp
  refine ae.pure (wJ t r.text aa) ab ?_;have h:=hno (λh=>ht ((hra.1 h).1 rfl));simp[ht,aH h]
 ·simp
  refine ae.pure (wJ t r.text aa) ab ?_;simp[ht];refine ae.pure (pH d aa ((i:Int)+1)) (by simp[Doc.row,s2]) ?_;exact Vc
theorem uT(n:Net)(hl:fj n<=2^30):ar Tryz.prog 55 [.agg n.row] (.one (.c (vb (gz n)) 1)):=by
 refine pci aq Tryz.func55 (λw0 base=>?_);obtain⟨d,l⟩:=n;unfold fj at hl;simp only at hl;have hle:=bB (f:=cE) (B:=2^40) (l:=l) aa;simp[Net.row];intro b1;refine ae.pure (jh d aa) aS ?_;by_cases c1:cf d
 rotate_left
 ·have h:¬gz ⟨d,l⟩:=λh=>c1 h.1
  exact oj
 simp[c1];refine ae.pure (dH l.length 1 4) ab ?_;by_cases c2:1<=l.length/\l.length<=4
 rotate_left
 ·exact TN
 have c2':1<=(l.length:Int)/\(l.length:Int)<=4:=aa;have hh:=dD c1;simp[c2']
 refine aE eok (λi:Nat=>i<=l.length/\∀j,j<i->∀h:j<l.length,oL d j l[j]) (λi=>⟨107,0,[(23,.v (.int .i64 i)),(22,.v (.int .i64 l.length)),(21,.ro (l.map Rep.row)),(1,.p 16 b1 0)],
  [(16,.vars b1 47 [.v (.string d.name),.v (.int .i64 d.fr),.ro (d.text.map aN),.ro (d.list.map Entry.row),.ro (d.seen.map Seen.row),.ro (l.map Rep.row)])]⟩) (λi=>l.length-i) 0 ab ab (λi hi=>Ent.refl ?_)
 by_cases hlt:i<l.length
 rotate_left
 ·exact Sv
 have hm:=hQ (f:=cE) (B:=2^30) (l:=l) aa (ao hlt);obtain⟨r,hr⟩:∃r,l[i]=r:=⟨_,rfl⟩;have hno:¬oL d i r->¬gz ⟨d,l⟩:=λh hn=>h (hr ▸ hn.2.2 i hlt)
 rw[hr]at hm;have ew:Go.IntKind.i64.wrap ((i:Int)+1)=(i:Int)+1:=ah _ aa;have hdn:cO d<=2^30:=aa;have htext:r.text.length<=2^30:=by unfold cE at hm;omega
 simp[hlt,hr,Rep.row];intro b4;refine cg.quiet eok mix ai ?_;simp;refine⟨_,_,fT r aa,dB,?_⟩;by_cases s1:db r
 rotate_left
 ·simp[aH s1,aH (hno (λh=>s1 h.1))]
 simp[s1,ew];by_cases s2:r.client=i+1
 rotate_left
 ·simp[s2,ew,aH (hno (λh=>s2 h.2.1))]
 simp[s2,ew];refine⟨_,_,cX d,aS,?_⟩;by_cases s3:r.rev<=aA d
 rotate_left
 ·exact Rv
 have s3':¬aA d<r.rev:=aa;simp[s3'];refine ae.pure (mV d hdn r.rev) aS ?_;have htl:=nK d r.rev
 have hra:oL d i r↔((eu d r.rev).2=true->(eu d r.rev).1=r.text)/\o7 r (eD d ((i:Int)+1)).1:=by
  rw[<-s2];exact⟨λh=>h.2.2.2,λh=>⟨s1,s2,s3,h⟩⟩
 have hsb:=u6 c1 ((i:Int)+1)
 have fin:oL d i r->∀j,j<i+1->∀h:j<l.length,oL d j l[j]:=by
  exact Sf
 have hseq:=s1.2.1;generalize eu d r.rev=T at htl hra⊢;obtain⟨t,ok⟩:=T;simp only at htl hra⊢;simp;intro H1;have hsn:∀S:Seen,0<=S.seq->S.seq<=1000000000->Go.IntKind.i64.wrap (S.seq+1)=S.seq+1:=λS h1 h2=>ah _ aa
 have hcase:ok=false\/(ok=true/\t≠r.text)\/(ok=true/\t=r.text):=by
  exact TH
 rcases hcase with rfl|⟨rfl,ht⟩|⟨rfl,ht⟩
 ·simp
  refine ae.pure (pB d aa ((i:Int)+1)) (by simp[Doc.row,s2]) ?_;exact Vd
 ·simp
  refine ae.pure (uX t r.text aa) ab ?_;have h:=hno (λh=>ht ((hra.1 h).1 rfl));simp[ht,aH h]
 ·simp
  refine ae.pure (uX t r.text aa) ab ?_;simp[ht];refine ae.pure (pB d aa ((i:Int)+1)) (by simp[Doc.row,s2]) ?_;exact Vc
inductive At where
 |k
 |p (c:Int)
 |d
def ats(p:Part):List At:=if p.kind=2 then p.signs.map At.p else if p.kind=3 then List.replicate (psz p) .d else List.replicate (psz p) .k
def cK:List Part->List At
 | []=>[]
 |p::l=>ats p++cK l
theorem lL:∀(a b:List Part),cK (a++b)=cK a++cK b
 | [],b=>rfl
 |p::a,b=>by simp[cK,lL a b]
def frA:List At->Nat
 | []=>0
 | .p _::l=>frA l
 |_::l=>frA l+1
def toA:List At->Nat
 | []=>0
 | .d::l=>toA l
 |_::l=>toA l+1
theorem nV:∀(a b:List At),frA (a++b)=frA a+frA b
 | [],b=>by simp[frA]
 | .p c::a,b=>by simp[frA,nV a b]
 | .k::a,b=>by simp[frA,nV a b];omega
 | .d::a,b=>by simp[frA,nV a b];omega
theorem mi:∀(a b:List At),toA (a++b)=toA a+toA b
 | [],b=>by simp[toA]
 | .d::a,b=>by simp[toA,mi a b]
 | .k::a,b=>by simp[toA,mi a b];omega
 | .p c::a,b=>by simp[toA,mi a b];omega
theorem Lm:∀l:List Int,frA (l.map At.p)=0
 | []=>rfl
 |c::l=>by simp[frA,Lm l]
theorem Ex:∀l:List Int,toA (l.map At.p)=l.length
 | []=>rfl
 |c::l=>by simp[toA,Ex l]
theorem aa7:∀n:Nat,frA (List.replicate n At.k)=n
 |0=>rfl
 |n+1=>by simp[cw,frA,aa7 n]
theorem Ln:∀n:Nat,frA (List.replicate n At.d)=n
 |0=>rfl
 |n+1=>by simp[cw,frA,Ln n]
theorem OA:∀n:Nat,toA (List.replicate n At.k)=n
 |0=>rfl
 |n+1=>by simp[cw,toA,OA n]
theorem Ey:∀n:Nat,toA (List.replicate n At.d)=0
 |0=>rfl
 |n+1=>by simp[cw,toA,Ey n]
theorem Vr{p:Part}(h:aY p)(k:p.kind=2):psz p=p.signs.length:=by
 rw[mj k]at h;unfold psz;omega
theorem ahO{p:Part}:frA (ats p)=if p.kind=2 then 0 else psz p:=by
 unfold ats
 split
 ·exact Lm _
 ·split
  ·exact Ln _
  ·exact aa7 _
theorem ahN{p:Part}(h:aY p):toA (ats p)=if p.kind=3 then 0 else psz p:=by
 unfold ats;by_cases k:p.kind=2
 ·have:¬p.kind=3:=by omega
  rw[al k,ak this,Ex,Vr h k]
 ·rw[ak k]
  split
  ·exact Ey _
  ·exact OA _
theorem yC:∀(o:List Part),frs o=frA (cK o)
 | []=>rfl
 |p::o=>by simp only[frs,cK,nV,ahO,yC o]
theorem AI:∀{o:List Part},(∀p∈o,aY p)->tos o=toA (cK o)
 | [],_=>rfl
 | p :: o, h => by
   simp only[tos,cK,mi,ahN (h p (aP ..)),AI (λq hq=>h q (aG _ hq))]
def nA:List Int->Nat->List At->List At
 |P,n,[]=>P.map At.p++List.replicate n .d
 |P,n,.k::l=>P.map At.p++(List.replicate n .d ++ .k::nA [] 0 l)
 |P,n,.p c::l=>nA (P++[c]) n l
 |P,n,.d::l=>nA P (n+1) l
def ux(l:List At):List At:=nA [] 0 l
theorem VB:∀(l:List At) (P:List Int) (n:Nat),frA (nA P n l)=n+frA l
 | [],P,n=>by simp[nA,frA,nV,Lm,Ln]
 | .k::l,P,n=>by simp[nA,frA,nV,Lm,Ln,VB l]
 | .p c::l,P,n=>by simp[nA,frA,VB l]
 | .d::l,P,n=>by simp[nA,frA,VB l];omega
theorem Vz:∀(l:List At) (P:List Int) (n:Nat),toA (nA P n l)=P.length+toA l
 | [],P,n=>by simp[nA,toA,mi,Ex,Ey]
 | .k::l,P,n=>by simp[nA,toA,mi,Ex,Ey,Vz l]
 | .p c::l,P,n=>by simp[nA,toA,Vz l];omega
 | .d::l,P,n=>by simp[nA,toA,Vz l]
theorem VA:∀(Q P:List Int) (n:Nat) (l:List At),nA P n (Q.map At.p++l)=nA (P++Q) n l
 | [],P,n,l=>ab
 |c::Q,P,n,l=>by simp[nA,VA Q]
theorem VC:∀(m:Nat) (P:List Int) (n:Nat) (l:List At),nA P n (List.replicate m .d++l)=nA P (n+m) l
 |0,P,n,l=>ab
 |m+1,P,n,l=>by simp[cw,nA,VC m];congr 1;omega
theorem aeV:∀(m:Nat) (l:List At),nA [] 0 (List.replicate m .k++l)=List.replicate m .k++nA [] 0 l
 |0,l=>ab
 |m+1,l=>by simp[cw,nA,aeV m]
def bA(s:List Part×List Int×Int):List At:=cK s.1++(s.2.1.map At.p++List.replicate s.2.2.toNat .d)
theorem Ny{L:List Part}{P:List Int}{D:Int}:cK (bq L P D)=bA (L,P,D):=by
 unfold bq bA;rw[lL,lL]
 congr 1
 congr 1
 ·split
  ·rename_i h;simp[h,cK]
  ·simp[cK,ats]
 ·split
  ·simp[cK,ats,psz]
  ·have:D.toNat=0:=by omega
   simp[cK,this]
theorem vX:∀(L:List Part) (_h:0<L.length) (p:Part),cK (L.set (L.length-1) p)=cK L.dropLast++ats p
 | [q],h,p=>by simp[cK]
 | q :: r :: L, h, p => by
   have ih:=vX (r::L) ab p;simp only[bH,lS]at ih⊢;rw[Mg,cK,ih];simp[cK]
theorem GB:∀(L:List Part) (h:0<L.length),cK L=cK L.dropLast++ats (L[L.length-1]' aa)
 | [q],h=>by simp[cK]
 | q :: r :: L, h => by
   have ih:=GB (r::L) ab;simp only[bH,lS]at ih⊢;rw[cK,ih];simp[cK]
theorem adC{L:List Part}{n:Int}(hn:0<n)(hL:∀q∈L,0<=q.n)(hk:∀q∈L,q.kind=1->q.signs=[]):cK (dX L n)=cK L++List.replicate n.toNat .k:=by
 unfold dX
 split
 ·rename_i h
  split
  ·rename_i k
   have h1:=hL _ (ao (show L.length-1<L.length from aa));have h2:=hk _ (ao (show L.length-1<L.length from aa)) k;rw[vX L h,GB L h,cU]
   congr 1
   generalize L[L.length-1]' aa=q at h1 h2 k;obtain⟨a,b,c⟩:=q;simp only at h1 h2 k;subst k h2;simp[ats,psz,List.replicate_append_replicate];omega
  ·rw[lL]
   simp[cK,ats,psz]
 ·rename_i h
  have:L=[]:=aF aa;subst this;simp[cK,ats,psz]
theorem Ch{L:List Part}{P:List Int}{D:Int}(h:∀q∈L,q.kind=1->q.signs=[]):∀q∈bq L P D,q.kind=1->q.signs=[]:=by
 intro q hq hk;unfold bq at hq;rcases aO.1 hq with hq|hq
 ·exact h q hq hk
 ·rcases aO.1 hq with hq|hq
  ·split at hq
   ·simp at hq
   ·simp at hq;subst hq;simp at hk
  ·split at hq
   ·simp at hq;subst hq;rfl
   ·simp at hq
theorem Pl{L:List Part}{n:Int}(h:∀q∈L,q.kind=1->q.signs=[]):∀q∈dX L n,q.kind=1->q.signs=[]:=by
 intro q hq hk;unfold dX at hq
 split at hq
 ·rename_i hl
  split at hq
  ·rename_i k
   rcases yb hq with hq|rfl
   ·exact h q hq hk
   ·exact(h (L[L.length-1]' aa) (ao _) k :)
  ·rcases aO.1 hq with hq|hq
   ·exact h q hq hk
   ·simp at hq;subst hq;rfl
 ·simp at hq;subst hq;rfl
theorem M1{o:List Part}(ho:∀p∈o,aY p):∀(i:Nat),i<=o.length->(∀q∈(bT (o.take i)).1,q.kind=1->q.signs=[])/\0<=(bT (o.take i)).2.2/\(∀q∈(bT (o.take i)).1,0<=q.n) /\
 ∀l,ux (cK (o.take i)++l)=cK (bT (o.take i)).1++nA (bT (o.take i)).2.1 (bT (o.take i)).2.2.toNat l
 |0,_=>by simp[bT,cK,ux]
 | i + 1, hi => by
   obtain⟨h1,h2,h3,h4⟩:=M1 ho i aa;have hlt:i<o.length:=aa;have hq:=(qa ho (i+1) hi);have hp:=(ho _ (ao hlt));have hb:=hp.bounds;refine⟨?_,hq.d0,λq hq'=>(hq.q q hq').1,λl=>?_⟩
   ·rw[mC hlt]
    unfold fb
    split
    ·exact h1
    ·split
     ·exact h1
     ·split
      ·exact Pl (Ch h1)
      ·exact h1
   ·rw[<-bY hlt,lL,cU,h4,bY hlt,mC hlt]
    generalize bT (o.take i)=s at h1 h2 h3;generalize o[i]=p at hp hb;obtain⟨L,P,D⟩:=s;simp only at h1 h2 h3;simp only[cK,cu];unfold fb;by_cases k2:p.kind=2
    ·simp only[k2,dA]
     rw[show ats p=p.signs.map At.p by unfold ats;rw[al k2],VA]
    ·by_cases k3:p.kind=3
     ·have hs:=hb.2.2.2.2.2 k2
      have e:(D+p.n).toNat=D.toNat+p.n.toNat:=aa;simp only[k3,dA];rw[show ats p=List.replicate (psz p) .d by unfold ats;rw[ak k2,al k3],VC];simp[e,psz,hs]
     ·have k1:p.kind=1:=by omega
      have hs:=hb.2.2.2.2.2 k2;have e:ats p=List.replicate p.n.toNat .k:=by unfold ats;rw[ak k2,ak k3];simp[psz,hs]
      simp only[k2,k3,dy];rw[e]
      split
      ·rename_i hn
       have hfl:∀q∈bq L P D,0<=q.n:=by
        intro q hq';unfold bq at hq';rcases aO.1 hq' with hq'|hq'
        ·exact h3 q hq'
        ·rcases aO.1 hq' with hq'|hq'
         ·split at hq'
          ·simp at hq'
          ·simp at hq';subst hq';simp
         ·split at hq'
          ·simp at hq';subst hq';simp;omega
          ·simp at hq'
       simp only;rw[adC hn hfl (Ch h1),Ny];obtain⟨m,hm⟩:∃m,p.n.toNat=m+1:=⟨p.n.toNat-1,aa⟩;rw[hm];simp[bA,cw,nA,aeV]
      ·have:p.n.toNat=0:=by omega
       simp[this]
theorem nN{o:List Part}(ho:∀p∈o,aY p):cK (normal o)=ux (cK o):=by
 have h:=(M1 ho o.length (aC _)).2.2.2 [];rw[dn,cu]at h;unfold normal;rw[Ny,h];unfold bA;simp[nA]
theorem Fp(l:List At):frA (ux l)=frA l:=by unfold ux;rw[VB];omega
theorem Fo(l:List At):toA (ux l)=toA l:=by unfold ux;rw[Vz];simp
def tA:List At->List At->List At×List At
 | .p c::a,b=>(.p c::(tA a b).1,.k::(tA a b).2)
 | [],.p c::b=>(.k::(tA [] b).1,.p c::(tA [] b).2)
 | .k::a,.p c::b=>(.k::(tA (.k::a) b).1,.p c::(tA (.k::a) b).2)
 | .d::a,.p c::b=>(.k::(tA (.d::a) b).1,.p c::(tA (.d::a) b).2)
 | .k::a,.k::b=>(.k::(tA a b).1,.k::(tA a b).2)
 | .k::a,.d::b=>((tA a b).1,.d::(tA a b).2)
 | .d::a,.k::b=>(.d::(tA a b).1,(tA a b).2)
 | .d::a,.d::b=>tA a b
 | [],_=>([],[])
 |_,[]=>([],[])
termination_by a b=>a.length+b.length
def noP:List At->Bool
 | .p _::_=>false
 |_=>true
theorem ajI{c:Int}{a b:List At}:tA (.p c::a) b=(.p c::(tA a b).1,.k::(tA a b).2):=by rw[tA]
theorem ajH{c:Int}{a b:List At}(h:noP a=true):tA a (.p c::b)=(.k::(tA a b).1,.p c::(tA a b).2):=by
 match a,h with
 | [],_=>rw[tA]
 | .k::a,_=>rw[tA]
 | .d::a,_=>rw[tA]
theorem aeM{a b:List At}:∀Q:List Int,tA (Q.map At.p++a) b=(Q.map At.p++(tA a b).1,List.replicate Q.length .k++(tA a b).2)
 | []=>ab
 |c::Q=>by simp[ajI,aeM Q,cw]
theorem ZN{a b:List At}(h:noP a=true):∀Q:List Int,tA a (Q.map At.p++b)=(List.replicate Q.length .k++(tA a b).1,Q.map At.p++(tA a b).2)
 | []=>ab
 |c::Q=>by simp[ajH h,ZN h Q,cw]
theorem aeN{a b:List At}:∀n:Nat,tA (List.replicate n .k++a) (List.replicate n .k++b)=(List.replicate n .k++(tA a b).1,List.replicate n .k++(tA a b).2)
 |0=>ab
 |n+1=>by simp[cw,tA,aeN n]
theorem aeO{a b:List At}:∀n:Nat,tA (List.replicate n .k++a) (List.replicate n .d++b)=((tA a b).1,List.replicate n .d++(tA a b).2)
 |0=>ab
 |n+1=>by simp[cw,tA,aeO n]
theorem aeP{a b:List At}:∀n:Nat,tA (List.replicate n .d++a) (List.replicate n .k++b)=(List.replicate n .d++(tA a b).1,(tA a b).2)
 |0=>ab
 |n+1=>by simp[cw,tA,aeP n]
theorem aeQ{a b:List At}:∀n:Nat,tA (List.replicate n .d++a) (List.replicate n .d++b)=tA a b
 |0=>ab
 |n+1=>by simp[cw,tA,aeQ n]
theorem mJ:∀{x:List Part},(∀p∈x,aY p)->cK (nxt x)=cK x
 | [],_=>rfl
 | p :: l, h => by
   have ih:=mJ (x:=l) (λq hq=>h q (aG _ hq));unfold nxt
   split
   ·rename_i hz
    rw[ih,cK]
    have:ats p=[]:=by
     have hp:=h p (aP ..);unfold ats
     split
     ·rename_i k;rw[Vr hp k]at hz;simp[aF hz]
     ·split<;>simp[hz]
    simp[this]
   ·rfl
theorem Bu{p:Part}(h:aY p){n:Nat}(hn:n<=psz p):ats p=ats (fJ p n)++ats (bX p n):=by
 have hb:=h.bounds;by_cases k2:p.kind=2
 ·unfold ats fJ bX
  simp only[k2,dA];rw[<-eY,iw]
 ·have hs:=hb.2.2.2.2.2 k2
  have hz:psz p=p.n.toNat:=by simp[psz,hs]
  have e:p.n.toNat=n+(p.n-n).toNat:=aa;by_cases k3:p.kind=3
  ·unfold ats fJ bX
   simp only[k3,dA];simp[psz,hs];omega
  ·unfold ats fJ bX
   simp only[k2,dy,k3];simp[psz,hs];omega
theorem GA{p:Part}(h:aY p):ats (bX p (psz p))=[]:=by
 have h1:=Bu h (aC (psz p));rw[fi h]at h1
 simpa using h1
theorem V9{p:Part}(_h:aY p)(k:p.kind≠2):ats p=if p.kind=3 then List.replicate (psz p) .d else List.replicate (psz p) .k:=by unfold ats;rw[ak k]
theorem xk{p:Part}(h:aY p)(k:p.kind≠2){n:Nat}(hn:n<=psz p):ats (fJ p n)=if p.kind=3 then List.replicate n .d else List.replicate n .k:=by
 have hs:=h.bounds.2.2.2.2.2 k;have:psz (fJ p n)=n:=by unfold psz fJ;rw[ak k];simp[hs]
 rw[V9 (q9 h hn) (by simpa using k),this];simp
theorem aef{p:Part}(h:aY p)(k:p.kind≠2)(hp:0<psz p)(l:List At):noP (ats p++l)=true:=by
 rw[V9 h k];obtain⟨m,hm⟩:∃m,psz p=m+1:=⟨psz p-1,aa⟩;rw[hm]
 split<;>simp[cw,noP]
theorem Ep{x y:List Part}(hi:TInv x y)(h:ij x y=none):nxt x=[]/\nxt y=[]:=by
 have hxt:=mc x;have hyf:=mc y;have hb:=hi.b;unfold ij at h
 cases ex:nxt x with
 | nil =>
   rw[ex]at h hxt
   cases ey:nxt y with
   |nil=>exact⟨rfl,rfl⟩
   | cons q y' =>
     rw[ey]at hyf;have hp:=ga ey;simp only[ey]at h
     split at h
     ·cases h
     ·rename_i k
      simp[frs,k]at hxt hyf;omega
 | cons p x' =>
   rw[ex]at h hxt;have hp:=ga ex;simp only at h
   split at h
   ·cases h
   ·rename_i k
    cases ey:nxt y with
    | nil =>
      rw[ey]at hyf;simp[frs,k]at hxt hyf;omega
    | cons q y' =>
      simp only[ey]at h
      split at h<;>cases h
theorem YL:∀(k:Nat) {x y:List Part},TInv x y->tsz x+tsz y<=k->(cK (xfK k x y).1,cK (xfK k x y).2)=tA (cK x) (cK y)
 | 0, x, y, hi, h => by
   have hn:ij x y=none:=by
    exact Kb
   obtain⟨e1,e2⟩:=Ep hi hn;rw[<-mJ hi.px,<-mJ hi.py,e1,e2];simp[xfK,cK,tA]
 | k + 1, x, y, hi, h => by
   rw[xfK]
   cases hs:ij x y with
   | none =>
     obtain⟨e1,e2⟩:=Ep hi hs;rw[<-mJ hi.px,<-mJ hi.py,e1,e2];simp[cK,tA]
   | some r =>
     have hn:=jq hi hs;have hd:=hn.dec;have ih:=YL k hn.inv aa;simp only[lL];rw[<-mJ hi.px,<-mJ hi.py];generalize xfK k r.2.1 r.2.2=Z at ih⊢;unfold ij at hs
     cases ex:nxt x with
     | nil =>
       rw[ex]at hs
       cases ey:nxt y with
       |nil=>simp[ey]at hs
       | cons q y' =>
         have hq:=gC hi.py ey;simp only[ey]at hs
         split at hs
         ·rename_i kq
          cases hs
          simp only[cK,GA hq.1,ig]at ih;simp only[cK,fi hq.1,cu];rw[show ats q=q.signs.map At.p by unfold ats;rw[al kq],ZN rfl,<-ih];simp[ats,psz]
         ·cases hs
     | cons p x' =>
       rw[ex]at hs;have hp:=gC hi.px ex;have hpp:=ga ex;simp only at hs
       split at hs
       ·rename_i kp
        cases hs
        simp only[cK,GA hp.1,ig]at ih;simp only[cK,fi hp.1,cu,mJ hi.py];rw[show ats p=p.signs.map At.p by unfold ats;rw[al kp],aeM,<-ih];simp[ats,psz]
       ·rename_i kp
        cases ey:nxt y with
        |nil=>simp[ey]at hs
        | cons q y' =>
          have hq:=gC hi.py ey;have hqp:=ga ey;simp only[ey]at hs
          split at hs
          ·rename_i kq
           cases hs
           simp only[cK,GA hq.1,ig]at ih;simp only[cK,fi hq.1,cu];rw[show ats q=q.signs.map At.p by unfold ats;rw[al kq],ZN (aef hp.1 kp hpp _),<-ih];simp[ats,psz]
          ·rename_i kq
           cases hs
           have hn1:min (psz p) (psz q)<=psz p:=aa;have hn2:min (psz p) (psz q)<=psz q:=aa;simp only[cK]at ih⊢;rw[Bu hp.1 hn1,Bu hq.1 hn2,xk hp.1 kp hn1,xk hq.1 kq hn2,cU,cU];have hb1:=hp.1.bounds.1;have hb2:=hq.1.bounds.1;generalize min (psz p) (psz q)=n at ih hn1 hn2⊢;by_cases k1:p.kind=3<;>by_cases k2:q.kind=3
           ·have e1:¬p.kind=1:=by omega
            have e2:¬q.kind=1:=aa;simp only[k1,k2,dA,aeQ,<-ih];simp[cK]
           ·have e1:¬p.kind=1:=by omega
            have e2:q.kind=1:=aa;simp only[k1,k2,dA,dy,aeP,<-ih];simp[cK,e2,xk hp.1 kp hn1,k1]
           ·have e1:p.kind=1:=by omega
            have e2:¬q.kind=1:=aa;simp only[k1,k2,dA,dy,aeO,<-ih];simp[cK,e1,xk hq.1 kq hn2,k2]
           ·have e1:p.kind=1:=by omega
            have e2:q.kind=1:=aa;simp only[k1,k2,dy,aeN,<-ih];simp[cK,e1,e2,xk hp.1 kp hn1,xk hq.1 kq hn2]
theorem aiR{x y:List Part}(hi:TInv x y):(cK (xf x y).1,cK (xf x y).2)=tA (cK x) (cK y):=YL _ hi (aC _)
theorem yk:∀(a b:List At),frA a=frA b->frA (tA a b).1=toA b/\frA (tA a b).2=toA a/\toA (tA a b).1=toA (tA a b).2
 | .p c :: a, b, h => by
   have ih:=yk a b yY;rw[ajI];simp[frA,toA];omega
 | [], .p c :: b, h => by
   have ih:=yk [] b yY;exact JW
 | .k :: a, .p c :: b, h => by
   have ih:=yk (.k::a) b yY;exact JW
 | .d :: a, .p c :: b, h => by
   have ih:=yk (.d::a) b yY;exact JW
 | .k :: a, .k :: b, h => by
   exact J6
 | .k :: a, .d :: b, h => by
   exact J6
 | .d :: a, .k :: b, h => by
   exact J6
 | .d :: a, .d :: b, h => by
   have ih:=yk a b yY;rw[tA];simp[toA];omega
 | [],[],h=>by simp[tA,frA,toA]
 | [],.k::b,h=>by simp[frA]at h
 | [],.d::b,h=>by simp[frA]at h
 | .k::a,[],h=>by simp[frA]at h
 | .d::a,[],h=>by simp[frA]at h
termination_by a b=>a.length+b.length
theorem aeL{x y:List Part}(hi:TInv x y):(∀p∈(xf x y).1,aY p)/\∀p∈(xf x y).2,aY p:=by
 have key:∀(k:Nat) {x y:List Part},TInv x y->(∀p∈(xfK k x y).1,aY p)/\∀p∈(xfK k x y).2,aY p:=by
  intro k
  induction k with
  |zero=>intro x y hi;simp[xfK]
  | succ k ih =>
    intro x y hi;rw[xfK]
    cases hs:ij x y with
    |none=>simp
    | some r =>
      have hn:=jq hi hs;have h2:=ih hn.inv;simp only[aO];exact⟨λp hp=>hp.elim (hn.okx p) (h2.1 p),λp hp=>hp.elim (hn.oky p) (h2.2 p)⟩
 exact key _ hi
structure TrOk(a b:List Part):Prop where
 oka:cz a
 okb:cz b
 from_:bS a=bS b
 okx:cz (aX a b).1
 oky:cz (aX a b).2.1
 fx:bS (aX a b).1=jt b
 fy:bS (aX a b).2.1=jt a
 to:jt (aX a b).1=jt (aX a b).2.1
 ax:cK (aX a b).1=ux (tA (cK a) (cK b)).1
 ay:cK (aX a b).2.1=ux (tA (cK a) (cK b)).2
theorem HP{a b:List Part}(h:(aX a b).2.2=true):TrOk a b:=by
 unfold aX at h
 split at h
 ·rename_i h1
  split at h
  ·rename_i h2
   have e:aX a b=(normal (xf a b).1,normal (xf a b).2,true):=by unfold aX;rw[al h1,al h2]
   have hi:=C6 h1.1 h1.2.1 h1.2.2;have hat:=aiR hi;have hk:=aeL hi;have e1:cK (xf a b).1=(tA (cK a) (cK b)).1:=by rw[<-hat]
   have e2:cK (xf a b).2=(tA (cK a) (cK b)).2:=by rw[<-hat]
   have l:=yk (cK a) (cK b) (by rw[<-yC,<-yC];exact hi.b);have n1:=nN hk.1;have n2:=nN hk.2;have f1:=qf h2.1;have f2:=qf h2.2;have t1:=ye h2.1;have t2:=ye h2.2;have t3:=ye h1.1;have t4:=ye h1.2.1;rw[yC,n1,Fp,e1,l.1]at f1;rw[yC,n2,Fp,e2,l.2.1]at f2;rw[AI h2.1.1.1,n1,Fo,e1]at t1;rw[AI h2.2.1.1,n2,Fo,e2]at t2;rw[AI h1.1.1.1]at t3;rw[AI h1.2.1.1.1]at t4;rw[e1]at n1;rw[e2]at n2;refine⟨h1.1,h1.2.1,h1.2.2,?_,?_,?_,?_,?_,?_,?_⟩<;>rw[e]
   ·exact h2.1
   ·exact h2.2
   ·exact mS
   ·exact mS
   ·simp only;have:=l.2.2;omega
   ·exact n1
   ·exact n2
  ·simp at h
 ·simp at h
end Go.Proofs.YtdeimojjhhdeaaaGreatDoor
