import Derived.Test.YtmccaifipoohfaaGreatDoorPB
import Derived.Test.YtmccaifipoohfaaGreatDoorPD
import Derived.Test.YtmccaifipoohfaaGreatDoorPG
import Derived.Test.YtmccaifipoohfaaGreatDoorPF
import Derived.Test.YtmccaifipoohfaaGreatDoorMG
import Derived.Test.YtmccaifipoohfaaGreatDoorPA
import Derived.Test.YtmccaifipoohfaaGreatDoorNA
import Derived.Lib.SplitLaws
import Derived.Lib.Join
import Derived.Lib.ItoaNum
namespace Go.Proofs.YtmccaifipoohfaaGreatDoor
open Go.AM
set_option maxRecDepth 20000
set_option maxHeartbeats 6400000
def qV(c:Int)(t:List Int)(s:List Int×Int)(p:Part):List Int×Int:=
 if p.kind=1 then(s.1++(t.drop s.2.toNat).take p.n.toNat,s.2+p.n)else if p.kind=2 then(s.1++List.replicate p.signs.length c,s.2)else(s.1,s.2+p.n)
def lK(o:List Part)(t:List Int)(c:Int):List Int×Int:=o.foldl (qV c t) ([],0)
theorem BA{o:List Part}{t:List Int}{c:Int}{i:Nat}(h:i<o.length):lK (o.take (i+1)) t c=qV c t (lK (o.take i) t c) o[i]:=by
 unfold lK;exact uu
def Kf(o:List Part)(t:List Int):Prop:=cg o/\bO o=t.length
open Classical in
noncomputable def jX(o:List Part)(t:List Int)(c:Int):List Int×Bool:=if Kf o t then((lK o t c).1,true)else([],false)
theorem vH{o:List Part}{t:List Int}{c:Int}(ho:∀p∈o,aS p):∀(i:Nat),i<=o.length->(lK (o.take i) t c).2=dN fK (o.take i)+dN fD (o.take i)/\(lK (o.take i) t c).1.length<=200*i
 |0,_=>by simp[lK,dN]
 | i + 1, hi => by
   have hlt:i<o.length:=aa;obtain⟨h1,h2⟩:=vH (t:=t) (c:=c) ho i aa;have hb:=(ho _ (ak hlt)).bounds;rw[BA hlt,gQ hlt,gQ hlt];generalize lK (o.take i) t c=s at h1 h2;obtain⟨L,a⟩:=s;simp only at h1 h2;generalize dN fK (o.take i)=x1 at h1⊢;generalize dN fD (o.take i)=x2 at h1⊢;unfold qV fK fD;exact UZ
theorem NU{o:List Part}{t:List Int}{c:Int}(h:Kf o t){i:Nat}(hi:i<o.length):0<=(lK (o.take i) t c).2/\(o[i].kind≠2->(lK (o.take i) t c).2+o[i].n<=t.length)/\(lK (o.take i) t c).2<=t.length:=by
 have ho:=h.1.1.1;have h1:=(vH (t:=t) (c:=c) ho i aa).1;have hf:bO o=dN fK o+dN fD o:=by unfold bO eI;rw[ai h.1.1]
 have h2:=mh (λp hp=>(Ry hp).1) ho (i+1);have h3:=mh (λp hp=>(RC hp).1) ho (i+1);have h4:=gW (f:=fK) (λp h=>Ry h) (qv ho i);have h5:=gW (f:=fD) (λp h=>RC h) (qv ho i);have h6:=gQ (f:=fK) hi;have h7:=gQ (f:=fD) hi;have h8:=h.2;exact WB
theorem NT{o:List Part}{t:List Int}{c:Int}:(jX o t c).1.length<=120000:=by
 unfold jX
 split
 ·rename_i h
  have h1:=(vH (t:=t) (c:=c) h.1.1.1 o.length (aw _)).2;rw[dH]at h1;have:=h.1.1.2;exact gM
 ·simp
noncomputable def qe(l:List Entry)(w:List Int):Nat->List Int
 |0=>w
 | i + 1 => match l[i]? with
   |some e=>(jX e.o (qe l w i) e.client).1
   |none=>qe l w i
open Classical in
noncomputable def et(d:Doc):List Int:=if bS d then qe d.list (List.replicate d.text.length 0) d.list.length else []
theorem Kn{l:List Entry}{w:List Int}{i:Nat}(h:i<l.length):qe l w (i+1)=(jX l[i].o (qe l w i) l[i].client).1:=by
 rw[qe,aB h]
theorem xZ{l:List Entry}{w:List Int}(hw:w.length<=120000):∀i,(qe l w i).length<=120000
 |0=>hw
 | i + 1 => by
   rw[qe]
   split
   ·exact NT
   ·exact xZ hw i
theorem IR(o:List Part)(t:List Int)(cl:Int)(hl:nL aY o<=2^40)(ht:t.length<=2^40):aH Tryz.prog 183 [.c (.s (o.map Part.row)),.c (.s (t.map aX)),.c (vi cl)] (.tup [.c (.s ((jX o t cl).1.map aX)) 1,.c (.v (.bool (jX o t cl).2)) 1]):=by
 refine pci au Tryz.func183 (λw0 base=>?_);simp;have no:¬Kf o t->jX o t cl=([],false):=λh=>by unfold jX;rw[aj h]
 refine ae.pure (eR o hl) ab ?_;by_cases c1:cg o
 rotate_left
 ·exact LN
 simp[c1];refine ae.pure (iS o hl) ab ?_;by_cases c3:bO o=t.length
 rotate_left
 ·simp[c3,no (λh=>c3 h.2)]
 have hf:Kf o t:=⟨c1,c3⟩;have e:jX o t cl=((lK o t cl).1,true):=by unfold jX;rw[ai hf]
 have ho:=c1.1.1;have hlen:=c1.1.2;simp[c3,e];refine aF eok (λx:Nat×Hd=>x.1<=o.length) (λx=>⟨63,0,[(24,.v (.int .i64 x.1)),(23,.v (.int .i64 o.length)),(22,.ro (o.map Part.row)),(9,.v (.int .i64 (lK (o.take x.1) t cl).2)),(8,.sl 5000 x.2 1 0 (lK (o.take x.1) t cl).1.length),(1,.ro (t.map aX)),(2,.v (.int .i64 cl))],[(5000,.rows x.2 1 ((lK (o.take x.1) t cl).1.map aX) true)]⟩) (λx=>o.length-x.1) (0,none) ab (by simp[lK]) (λx hi=>Ent.refl ?_);obtain⟨i,H⟩:=x;simp only at hi⊢;by_cases h:i<o.length
 ·skip
  have hin:=NU (c:=cl) hf h;have hat:=vH (t:=t) (c:=cl) ho i hi;have hb:=(ho _ (ak h)).bounds;have hs:=BA (t:=t) (c:=cl) h;generalize lK (o.take i) t cl=s at hin hat hs;obtain⟨L,a⟩:=s;simp only at hin hat hs;obtain⟨a',rfl⟩:∃a':Nat,a=a':=⟨a.toNat,aa⟩;obtain⟨n,hn⟩:∃n:Nat,o[i].n=n:=⟨o[i].n.toNat,aa⟩;have e:Go.IntKind.i64.wrap ((i:Int)+1)=((i+1:Nat):Int):=bL aa;have ea:Go.IntKind.i64.wrap ((a':Int)+n)=(a':Int)+n:=al _ aa;rw[hn]at hin;simp[h,Part.row];intro b9;by_cases k1:o[i].kind=1
  ·exact WV
  ·by_cases k3:o[i].kind=3
   ·have k2:¬o[i].kind=2:=by omega
    exact Wa
   ·have k2:o[i].kind=2:=by omega
    have hst:qV cl t (L,(a':Int)) o[i]=(L++List.replicate o[i].signs.length cl,(a':Int)):=by simp[qV,k2]
    rw[hst]at hs;have hsl:o[i].signs.length<=200:=St;obtain⟨z,hz⟩:∃z,o[i].signs.length=z:=⟨_,rfl⟩;rw[hz]at hs hsl;simp[k2,hz]
    refine aF eok (λx:Nat×Hd=>x.1<=z) (λx=>⟨63,0,[(33,.v (.int .i64 x.1)),(32,.v (.int .i64 z)),(24,.v (.int .i64 i)),(23,.v (.int .i64 o.length)),(22,.ro (o.map Part.row)),(9,.v (.int .i64 a')),(8,.sl 5000 x.2 1 0 (L.length+x.1)),(1,.ro (t.map aX)),(2,.v (.int .i64 cl))],
     [(5000,.rows x.2 1 ((L++List.replicate x.1 cl).map aX) true)]⟩) (λx=>z-x.1) (0,H) (fe _) ab (λx hx=>Ent.refl ?_)
    exact WN
 ·exact EO
theorem Iv(o:List Part)(t:List Int)(cl:Int)(hl:nL aY o<=2^40)(ht:t.length<=2^40):aH Tryz.prog 288 [.c (.s (o.map Part.row)),.c (.s (t.map aX)),.c (vi cl)] (.tup [.c (.s ((jX o t cl).1.map aX)) 1,.c (.v (.bool (jX o t cl).2)) 1]):=by
 refine pci au Tryz.func288 (λw0 base=>?_);simp;have no:¬Kf o t->jX o t cl=([],false):=λh=>by unfold jX;rw[aj h]
 refine ae.pure (eQ o hl) ab ?_;by_cases c1:cg o
 rotate_left
 ·exact LN
 simp[c1];refine ae.pure (ic o hl) ab ?_;by_cases c3:(t.length:Int)=bO o
 rotate_left
 ·simp[c3,no (λh=>c3 h.2.symm)]
 have hf:Kf o t:=⟨c1,c3.symm⟩;have e:jX o t cl=((lK o t cl).1,true):=by unfold jX;rw[ai hf]
 have ho:=c1.1.1;have hlen:=c1.1.2;simp[c3,e];intro b;refine aF eok (λx:Nat×Hd=>x.1<=o.length) (λx=>⟨64,0,[(25,.v (.int .i64 x.1)),(24,.v (.int .i64 o.length)),(23,.ro (o.map Part.row)),(9,.v (.int .i64 (lK (o.take x.1) t cl).2)),(8,.sl 352 x.2 1 0 (lK (o.take x.1) t cl).1.length),(1,.ro (t.map aX)),(2,.v (.int .i64 cl))],[(352,.rows x.2 1 ((lK (o.take x.1) t cl).1.map aX) true)]⟩) (λx=>o.length-x.1) (0,some (b,0,0)) ab (by simp[lK]) (λx hi=>Ent.refl ?_);obtain⟨i,H⟩:=x;simp only at hi⊢;by_cases h:i<o.length
 ·skip
  have hin:=NU (c:=cl) hf h;have hat:=vH (t:=t) (c:=cl) ho i hi;have hb:=(ho _ (ak h)).bounds;have hs:=BA (t:=t) (c:=cl) h;generalize lK (o.take i) t cl=s at hin hat hs;obtain⟨L,a⟩:=s;simp only at hin hat hs;obtain⟨a',rfl⟩:∃a':Nat,a=a':=⟨a.toNat,aa⟩;obtain⟨n,hn⟩:∃n:Nat,o[i].n=n:=⟨o[i].n.toNat,aa⟩;have e:Go.IntKind.i64.wrap ((i:Int)+1)=((i+1:Nat):Int):=bL aa;have ea:Go.IntKind.i64.wrap ((a':Int)+n)=(a':Int)+n:=al _ aa;rw[hn]at hin;simp[h,Part.row];intro b9;by_cases k1:o[i].kind=1
  ·exact WV
  ·by_cases k2:o[i].kind=2
   ·skip
    have hst:qV cl t (L,(a':Int)) o[i]=(L++List.replicate o[i].signs.length cl,(a':Int)):=by simp[qV,k2]
    rw[hst]at hs;have hsl:o[i].signs.length<=200:=St;obtain⟨z,hz⟩:∃z,o[i].signs.length=z:=⟨_,rfl⟩;rw[hz]at hs hsl;simp[k2,hz]
    refine aF eok (λx:Nat×Hd=>x.1<=z) (λx=>⟨64,0,[(55,.v (.int .i64 x.1)),(54,.v (.int .i64 z)),(25,.v (.int .i64 i)),(24,.v (.int .i64 o.length)),(23,.ro (o.map Part.row)),(9,.v (.int .i64 a')),(8,.sl 352 x.2 1 0 (L.length+x.1)),(1,.ro (t.map aX)),(2,.v (.int .i64 cl))],
     [(352,.rows x.2 1 ((L++List.replicate x.1 cl).map aX) true)]⟩) (λx=>z-x.1) (0,H) (fe _) ab (λx hx=>Ent.refl ?_)
    exact WN
   ·have k3:o[i].kind=3:=by omega
    exact Wa
 ·exact EO
theorem B1(d:Doc)(hl:eW d<=2^30):fL Tryz.prog 87 [.agg d.row] (λrr=>rr=.one (.c (.s ((et d).map aX)) 1)):=by
 refine fL.intro au Tryz.func87 ah rfl rfl rfl (ao rfl) (λw0 base o=>?_);simp[Doc.row];intro b1;refine ae.ro (jE d aa) aV ?_;by_cases ok:bS d
 rotate_left
 ·exact Tb
 have e:et d=qe d.list (List.replicate d.text.length 0) d.list.length:=by unfold et;rw[ai ok]
 rw[e];have ht:=ok.2.2.1.1;have hlist:=ok.2.2.2.1;have hent:=ok.2.2.2.2.1;have hwl:=λi=>xZ (l:=d.list) (w:=List.replicate d.text.length 0) Lk i
 simp[ok];refine⟨aa,λb3=>?_⟩;refine bk.ent (rG 3 192 xj xi ab (Ent.refl ?_));simp
 refine aF eok (λi:Nat=>i<=d.list.length) (λi=>⟨31,0,[(16,.v (.int .i64 i)),(15,.v (.int .i64 d.list.length)),(14,.ro (d.list.map Entry.row)),(3,.ro ((qe d.list (List.replicate d.text.length 0) i).map aX)),(1,.p 16 b1 0)],
  (16,.vars b1 33 [.v (.string d.name),.v (.int .i64 d.fr),.ro (d.text.map aX),.ro (d.list.map Entry.row),.ro (d.seen.map Seen.row)])::phs o⟩) (λi=>d.list.length-i) 0 ab (by simp[qe]) (λi hi=>Ent.refl ?_)
 by_cases h:i<d.list.length
 ·obtain⟨x,hx⟩:∃x,d.list[i]=x:=⟨_,rfl⟩
  have hxo:=hent _ (ak h);rw[hx]at hxo;have hs:=Kn (w:=List.replicate d.text.length 0) h;rw[hx]at hs
  have hn:nL aY x.o<=2^40:=by
   have a:=nZ hxo.2.2.1.1.1;have b:=hxo.2.2.1.1.2;omega
  have hw:=hwl i;generalize qe d.list (List.replicate d.text.length 0) i=W at hs hw⊢;simp[h,hx,Entry.row];intro b5;refine ae.ro (IR x.o W x.client hn aa) ab ?_;exact Sz
 ·have he:i=d.list.length:=by omega
  subst he;simp
theorem BI(d:Doc)(hl:eW d<=2^30):fL Tryz.prog 226 [.agg d.row] (λrr=>rr=.one (.c (.s ((et d).map aX)) 1)):=by
 refine fL.intro au Tryz.func226 ah rfl rfl rfl (ao rfl) (λw0 base o=>?_);simp[Doc.row];intro b1;refine ae.ro (jA d aa) aV ?_;by_cases ok:bS d
 rotate_left
 ·exact Tb
 have e:et d=qe d.list (List.replicate d.text.length 0) d.list.length:=by unfold et;rw[ai ok]
 rw[e];have ht:=ok.2.2.1.1;have hlist:=ok.2.2.2.1;have hent:=ok.2.2.2.2.1;have hwl:=λi=>xZ (l:=d.list) (w:=List.replicate d.text.length 0) Lk i
 simp[ok];refine⟨aa,λb3=>?_⟩;refine bk.ent (rG 3 192 xj xi ab (Ent.refl ?_));simp
 refine aF eok (λi:Nat=>i<=d.list.length) (λi=>⟨31,0,[(16,.v (.int .i64 i)),(15,.v (.int .i64 d.list.length)),(14,.ro (d.list.map Entry.row)),(3,.ro ((qe d.list (List.replicate d.text.length 0) i).map aX)),(1,.p 16 b1 0)],
  (16,.vars b1 33 [.v (.string d.name),.v (.int .i64 d.fr),.ro (d.text.map aX),.ro (d.list.map Entry.row),.ro (d.seen.map Seen.row)])::phs o⟩) (λi=>d.list.length-i) 0 ab (by simp[qe]) (λi hi=>Ent.refl ?_)
 by_cases h:i<d.list.length
 ·obtain⟨x,hx⟩:∃x,d.list[i]=x:=⟨_,rfl⟩
  have hxo:=hent _ (ak h);rw[hx]at hxo;have hs:=Kn (w:=List.replicate d.text.length 0) h;rw[hx]at hs
  have hn:nL aY x.o<=2^40:=by
   have a:=nZ hxo.2.2.1.1.1;have b:=hxo.2.2.1.1.2;omega
  have hw:=hwl i;generalize qe d.list (List.replicate d.text.length 0) i=W at hs hw⊢;simp[h,hx,Entry.row];intro b5;refine ae.ro (Iv x.o W x.client hn aa) ab ?_;exact Sz
 ·have he:i=d.list.length:=by omega
  subst he;simp
theorem Ent.weak{E:Env}{st st':ASt}{S:ASt->Prop}(hw:Ij st st')(h:Ent E st' S):Ent E st S:=λa w hR=>h a w (hw.rep hR)
def pF(r:Int×Int):List CD:=[.s [aX r.1,aX r.2]]
def re(L:List (Int×Int))(x:Int):List (Int×Int):=
 match L.getLast? with
 |some r=>if r.1=x then L.dropLast++[(x,r.2+1)]else L++[(x,1)]
 |none=>[(x,1)]
def rf(w:List Int):List (Int×Int):=w.foldl re []
theorem vY{w:List Int}{i:Nat}(h:i<w.length):rf (w.take (i+1))=re (rf (w.take i)) w[i]:=by
 unfold rf;exact uu
theorem Aq{w:List Int}:∀(i:Nat) (h:i<w.length),∃L n,rf (w.take (i+1))=L++[(w[i],n)]/\1<=n/\n<=(i:Int)+1/\L.length<=i
 |0,h=>⟨[],1,by rw[vY h];simp[rf,re],aa,aa,ab⟩
 | i + 1, h => by
   obtain⟨L,n,h1,h2,h3,h4⟩:=Aq (w:=w) i aa;rw[vY h,h1];unfold re;by_cases c:w[i]=w[i+1]
   ·exact⟨L,n+1,by simp[c],aa,aa,aa⟩
   ·exact⟨L++[(w[i],n)],1,by simp[c],aa,aa,aJ⟩
theorem JD{L:List (Int×Int)}{y n x:Int}:re (L++[(y,n)]) x=if y=x then L++[(x,n+1)]else L++[(y,n)]++[(x,1)]:=by
 unfold re;simp
theorem xE{L:List (Int×Int)}{row:List CD}{d:CD}:qy (L.map pF++[row]) L.length 0 d=L.map pF++[row.set 0 d]:=by
 unfold qy
 apply List.ext_getElem?
 intro j;rw[ou];by_cases c:j<L.length
 ·rw[cj (by simpa using c)]
  have:¬L.length=j:=aa;simp[this,cj,c]
 ·by_cases c2:j=L.length
  ·subst c2
   simp
  ·rw[s7 aJ,s7 aJ]
   simp
theorem Hs{E:Env}{u:Value}{n:Nat}{rows:List (List CD)}{K:AV->Prop}(h:Rd E.w0 false E.base.F u (.s rows))(k:K (.ro rows)):aCv E (.cv u n) K:=⟨rows,h,k⟩
theorem Rh(w:List Int)(hl:w.length<=2^40):aH Tryz.prog 86 [.c (.s (w.map aX))] (.one (.c (.s ((rf w).map pF)) 1)):=by
 refine aH.introL au Tryz.func86 ah rfl rfl rfl (ao rfl) rfl (λw0 base us hrd=>?_);simp at hrd;simp;refine aF eok (λx:Nat×Hd=>x.1<=w.length) (λx=>⟨41,0,[(8,.v (.int .i64 x.1)),(7,.v (.int .i64 w.length)),(6,.cv (us 0 0) w.length),(0,.cv (us 0 0) w.length),(3,.sl 5000 x.2 1 0 (rf (w.take x.1)).length)],[(5000,.rows x.2 1 ((rf (w.take x.1)).map pF) true)]⟩) (λx=>w.length-x.1) (0,none) ab (by simp[rf]) (λx hi=>?_);obtain⟨i,H⟩:=x;simp only at hi⊢;by_cases h:i<w.length
 rotate_left
 ·exact TK
 have e:Go.IntKind.i64.wrap ((i:Int)+1)=((i+1:Nat):Int):=bL aa;by_cases hz:i=0
 ·exact Wq
 obtain⟨m,hm⟩:∃m,i=m+1:=⟨i-1,aa⟩;have e1:Go.IntKind.i64.wrap ((i:Int)-1)=(m:Int):=(al _ aa).trans aa;have hmw:m<w.length:=aa;have hp:0<i:=aa;obtain⟨L,n,h1,h2,h3,h4⟩:=Aq (w:=w) m aa;have hs:=vY h;rw[<-hm]at h1;rw[h1,JD]at hs;rw[h1];by_cases c:w[m]=w[i]
 ·rw[ai c]at hs
  refine Ent.open (λ_ h=>h) (k:=5000) (i:=L.length) (j:=0) (k':=60000) (sz':=1) (sz:=1) (H:=H) (rows:=(L++[(w[m],n)]).map pF) (srows:=[aX w[m],aX n]) (row:=pF (w[m],n)) ab ab (by simp[pF]) ab ag (by simp[aX]) D8 (λG=>Ent.refl ?_);rw[iJ,NP,xE];have hrs:∀d,(pF (w[m],n)).set 0 d=[d]:=λ_=>rfl
  rw[hrs];simp[h];refine Hs hrd ?_;simp[h,hp,e1];refine Hs hrd ?_;have eL:Go.IntKind.i64.wrap (L.length:Int)=(L.length:Int):=jk aa;simp[hmw,c,eL];have en:Go.IntKind.i64.wrap (n+1)=n+1:=al _ aa;refine⟨aa,Ent.weak (st':=⟨41,0,[(8,.v (.int .i64 (i+1:Nat))),(7,.v (.int .i64 w.length)),(6,.cv (us 0 0) w.length),(0,.cv (us 0 0) w.length),(3,.sl 5000 H 1 0 (L.length+1))],[(60000,.rows G 1 [aX w[i],aX (n+1)] true),(5000,.rows H 1 (L.map pF++[[.h 60000 G 1 2]]) true)]⟩) (by simp[e,en,aX]) ?_⟩
  refine KO (k:=5000) (i:=L.length) (j:=0) (k':=60000) (sz':=1) (sz:=1) (H:=H) (H':=G) (rows:=L.map pF++[[.h 60000 G 1 2]]) (srows:=[aX w[i],aX (n+1)]) (row:=[.h 60000 G 1 2]) ab ab ab ab ag D8 (Ent.refl ⟨i+1,aa,aa,H,?_⟩);rw[hs,xE];simp[pF]
 ·exact Wm
theorem Qx(w:List Int)(hl:w.length<=2^40):aH Tryz.prog 225 [.c (.s (w.map aX))] (.one (.c (.s ((rf w).map pF)) 1)):=by
 refine aH.introL au Tryz.func225 ah rfl rfl rfl (ao rfl) rfl (λw0 base us hrd=>?_);simp at hrd;simp;intro bb;refine aF eok (λx:Nat×Hd=>x.1<=w.length) (λx=>⟨42,0,[(9,.v (.int .i64 x.1)),(8,.v (.int .i64 w.length)),(7,.cv (us 0 0) w.length),(0,.cv (us 0 0) w.length),(3,.sl 96 x.2 1 0 (rf (w.take x.1)).length)],[(96,.rows x.2 1 ((rf (w.take x.1)).map pF) true)]⟩) (λx=>w.length-x.1) (0,some (bb,0,0)) ab (by simp[rf]) (λx hi=>?_);obtain⟨i,H⟩:=x;simp only at hi⊢;by_cases h:i<w.length
 rotate_left
 ·exact TK
 have e:Go.IntKind.i64.wrap ((i:Int)+1)=((i+1:Nat):Int):=bL aa;by_cases hz:i=0
 ·exact Wq
 obtain⟨m,hm⟩:∃m,i=m+1:=⟨i-1,aa⟩;have e1:Go.IntKind.i64.wrap ((i:Int)-1)=(m:Int):=(al _ aa).trans aa;have hmw:m<w.length:=aa;have hp:0<i:=aa;obtain⟨L,n,h1,h2,h3,h4⟩:=Aq (w:=w) m aa;have hs:=vY h;rw[<-hm]at h1;rw[h1,JD]at hs;rw[h1];by_cases c:w[m]=w[i]
 ·rw[ai c]at hs
  refine Ent.open (λ_ h=>h) (k:=96) (i:=L.length) (j:=0) (k':=60000) (sz':=1) (sz:=1) (H:=H) (rows:=(L++[(w[m],n)]).map pF) (srows:=[aX w[m],aX n]) (row:=pF (w[m],n)) ab ab (by simp[pF]) ab ag (by simp[aX]) D8 (λG=>Ent.refl ?_);rw[iJ,NP,xE];have hrs:∀d,(pF (w[m],n)).set 0 d=[d]:=λ_=>rfl
  rw[hrs];simp[h];refine Hs hrd ?_;simp[h,hp,e1];refine Hs hrd ?_;have eL:Go.IntKind.i64.wrap (L.length:Int)=(L.length:Int):=jk aa;simp[hmw,c,eL];have en:Go.IntKind.i64.wrap (n+1)=n+1:=al _ aa;refine⟨aa,Ent.weak (st':=⟨42,0,[(9,.v (.int .i64 (i+1:Nat))),(8,.v (.int .i64 w.length)),(7,.cv (us 0 0) w.length),(0,.cv (us 0 0) w.length),(3,.sl 96 H 1 0 (L.length+1))],[(60000,.rows G 1 [aX w[i],aX (n+1)] true),(96,.rows H 1 (L.map pF++[[.h 60000 G 1 2]]) true)]⟩) (by simp[e,en,aX]) ?_⟩
  refine KO (k:=96) (i:=L.length) (j:=0) (k':=60000) (sz':=1) (sz:=1) (H:=H) (H':=G) (rows:=L.map pF++[[.h 60000 G 1 2]]) (srows:=[aX w[i],aX (n+1)]) (row:=[.h 60000 G 1 2]) ab ab ab ab ag D8 (Ent.refl ⟨i+1,aa,aa,H,?_⟩);rw[hs,xE];simp[pF]
 ·exact Wm
def rM(n:Int):List Int:=
 if n<128 then [n]else if n<2048 then [192+n / 64,128+n % 64]else if n<65536 then [224+n / 4096,128+n / 64 % 64,128+n % 64]else [240+n / 262144,128+n / 4096 % 64,128+n / 64 % 64,128+n % 64]
def u8R(x:Int):List CD:=[.v (.int .u8 x)]
def lA(l:List Int):List Int:=l.flatMap rM
def toB(l:List Int):List UInt8:=l.map λx=>UInt8.ofNat x.toNat
open Classical in
noncomputable def oY(l:List Int):ByteArray:=if dQ l then⟨(toB (lA l)).toArray⟩else⟨#[]⟩
theorem HK{l:List Int}{i:Nat}(h:i<l.length):lA (l.take (i+1))=lA (l.take i)++rM l[i]:=by
 unfold lA;rw[<-dM h,List.flatMap_append];simp
theorem aeC{n:Int}(h:jM n):∀x∈rM n,0<=x/\x<256:=by
 obtain⟨⟨h0,h1⟩,-⟩:=h;intro x hx;unfold rM at hx
 split at hx
 ·simp at hx;omega
 ·split at hx
  ·simp at hx;omega
  ·split at hx
   ·simp at hx;omega
   ·simp at hx;omega
theorem acx(n:Int):(rM n).length<=4:=by
 unfold rM
 split
 ·simp
 ·split
  ·simp
  ·split<;>simp
theorem ZH{l:List Int}(h:dQ l):∀x∈lA l,0<=x/\x<256:=by
 intro x hx;obtain⟨n,hn,hx⟩:=List.mem_flatMap.1 hx;exact aeC (h n hn) x hx
theorem va:∀l:List Int,(lA l).length<=4*l.length
 | []=>by simp[lA]
 | n :: l => by
   have h1:=va l;have h2:=acx n;simp only[lA,List.flatMap_cons,cP,bu]at h1⊢;omega
theorem aar{l:List Int}(h:∀x∈l,0<=x/\x<256):l.map u8R=(toB l).map gP:=by
 unfold toB;rw[Dy]
 apply gn
 intro x hx;have:=h x hx;simp only[Function.comp,u8R,gP];have e:((UInt8.ofNat x.toNat).toNat:Int)=x:=by rw[UInt8.toNat_ofNat'];omega
 rw[e]
theorem ZS:∀a:Fin 256,Go.bits .and .u8 (a.val:Int) 63=((a.val % 64:Nat):Int):=ug
theorem YI:∀a:Fin 64,Go.bits .or .u8 128 (a.val:Int)=128+(a.val:Int):=ug
theorem YH:∀a:Fin 32,Go.bits .or .u8 192 (a.val:Int)=192+(a.val:Int):=ug
theorem YG:∀a:Fin 16,Go.bits .or .u8 224 (a.val:Int)=224+(a.val:Int):=ug
theorem YF:∀a:Fin 8,Go.bits .or .u8 240 (a.val:Int)=240+(a.val:Int):=ug
theorem DU(x:Int):Go.IntKind.u8.wrap x=x % 256:=by
 simp[IntKind.wrap,IntKind.bits,IntKind.signed]
theorem X3(x:Int):Go.bits .and .u8 (Go.IntKind.u8.wrap x) 63=x % 64:=by
 rw[DU];have h:=ZS ⟨(x % 256).toNat,aa⟩;simp only at h;have e:(((x % 256).toNat:Nat):Int)=x % 256:=aa;rw[e]at h;rw[h];omega
theorem Xv(x:Int):Go.bits .or .u8 128 (x % 64)=128+x % 64:=by
 have h:=YI ⟨(x % 64).toNat,aa⟩;simp only at h;have e:(((x % 64).toNat:Nat):Int)=x % 64:=aa
 rwa[e]at h
theorem ajU{x:Int}(h0:0<=x)(h1:x<32):Go.bits .or .u8 192 (Go.IntKind.u8.wrap x)=192+x:=by
 have h:=YH ⟨x.toNat,aa⟩;exact LX
theorem ajT{x:Int}(h0:0<=x)(h1:x<16):Go.bits .or .u8 224 (Go.IntKind.u8.wrap x)=224+x:=by
 have h:=YG ⟨x.toNat,aa⟩;exact LX
theorem ajS{x:Int}(h0:0<=x)(h1:x<8):Go.bits .or .u8 240 (Go.IntKind.u8.wrap x)=240+x:=by
 have h:=YF ⟨x.toNat,aa⟩;exact LX
theorem Pe(l:List Int)(hl:l.length<=2^40):aH Tryz.prog 92 [.c (.s (l.map aX))] (.one (.c (.v (.string (oY l))) 1)):=by
 refine pci au Tryz.func92 (λw0 base=>?_);simp;refine ae.pure (ln l hl) ab ?_;by_cases ok:dQ l
 rotate_left
 ·exact S4
 have e:oY l=⟨(toB (lA l)).toArray⟩:=by unfold oY;rw[ai ok]
 rw[e]
 clear e
 simp[ok];refine aF eok (λx:Nat×Hd=>x.1<=l.length) (λx=>⟨22,0,[(11,.v (.int .i64 x.1)),(10,.v (.int .i64 l.length)),(9,.ro (l.map aX)),(3,.sl 5000 x.2 1 0 (lA (l.take x.1)).length)],[(5000,.rows x.2 1 ((lA (l.take x.1)).map u8R) true)]⟩) (λx=>l.length-x.1) (0,none) ab (by simp[lA]) (λx hi=>Ent.refl ?_);obtain⟨i,H⟩:=x;simp only at hi⊢;by_cases h:i<l.length
 rotate_left
 ·exact S3
 have e:Go.IntKind.i64.wrap ((i:Int)+1)=((i+1:Nat):Int):=bL aa;have hs:=HK h;have hln:=va (l.take i);rw[gh]at hln;obtain⟨⟨n0,n1⟩,n2⟩:=ok _ (ak h);generalize lA (l.take i)=L at hs hln;obtain⟨n,hn⟩:∃n,l[i]=n:=⟨_,rfl⟩;rw[hn]at hs n0 n1 n2;have e1:Go.IntKind.i32.wrap n=n:=Ss;have e2:Go.IntKind.u32.wrap n=n:=Ss;have e3:n<256->Go.IntKind.u8.wrap n=n:=λh=>by rw[DU];omega
 simp[h,hn,e1];refine inl au Tryz.func188 30000 (λw1 F=>?_);by_cases c1:n<128
 ·have c1':n<=127:=by omega
  have hen:rM n=[n]:=by unfold rM;rw[ai c1]
  rw[hen]at hs;simp[e2,c1',e3 aa];exact zV
 have c1':¬n<=127:=aa;simp[e2,c1'];refine inl au Tryz.func267 40000 (λw2 F2=>?_);by_cases c2:n<2048
 ·have c2':n<=2047:=by omega
  have hen:rM n=[192+n / 64,128+n % 64]:=by unfold rM;rw[aj c1,ai c2]
  rw[hen]at hs;have o1:=ajU (x:=n / 64) aa aa;simp[e2,c2',X3,Xv,o1];refine⟨ag,λb=>⟨aa,λH2=>Ent.refl ⟨i+1,aa,aa,H2,?_⟩⟩⟩;rw[hs];simp[e,u8R]
 have c2':¬n<=2047:=aa;by_cases c3:n<65536
 ·have hen:rM n=[224+n / 4096,128+n / 64 % 64,128+n % 64]:=by unfold rM;rw[aj c1,aj c2,ai c3]
  rw[hen]at hs;have o1:=ajT (x:=n / 4096) aa aa;by_cases c4:n<55296
  ·skip
   simp[e2,c2',c4,X3,Xv,o1];exact Vm
  ·have c5:57343<n:=by omega
   have c6:n<=65535:=aa;simp[e2,c2',c4,c5,c6,X3,Xv,o1];exact Vm
 ·have hen:rM n=[240+n / 262144,128+n / 4096 % 64,128+n / 64 % 64,128+n % 64]:=by unfold rM;rw[aj c1,aj c2,aj c3]
  rw[hen]at hs;have o1:=ajS (x:=n / 262144) aa aa;have c4:¬n<55296:=aa;have c5:57343<n:=aa;have c6:¬n<=65535:=aa;have c7:65535<n:=aa;simp[e2,c2',c4,c5,c6,c7,n1,X3,Xv,o1];refine⟨ag,ag,ag,λb=>⟨aa,λH2=>Ent.refl ⟨i+1,aa,aa,H2,?_⟩⟩⟩;rw[hs];simp[e,u8R]
theorem Oe(l:List Int)(hl:l.length<=2^40):aH Tryz.prog 224 [.c (.s (l.map aX))] (.one (.c (.v (.string (oY l))) 1)):=by
 refine pci au Tryz.func224 (λw0 base=>?_);simp;intro bb;refine ae.pure (mM l hl) ab ?_;by_cases ok:dQ l
 rotate_left
 ·exact S4
 have e:oY l=⟨(toB (lA l)).toArray⟩:=by unfold oY;rw[ai ok]
 rw[e]
 clear e
 simp[ok];refine aF eok (λx:Nat×Hd=>x.1<=l.length) (λx=>⟨22,0,[(12,.v (.int .i64 x.1)),(11,.v (.int .i64 l.length)),(10,.ro (l.map aX)),(3,.sl 96 x.2 1 0 (lA (l.take x.1)).length)],[(96,.rows x.2 1 ((lA (l.take x.1)).map u8R) true)]⟩) (λx=>l.length-x.1) (0,some (bb,0,0)) ab (by simp[lA]) (λx hi=>Ent.refl ?_);obtain⟨i,H⟩:=x;simp only at hi⊢;by_cases h:i<l.length
 rotate_left
 ·exact S3
 have e:Go.IntKind.i64.wrap ((i:Int)+1)=((i+1:Nat):Int):=bL aa;have hs:=HK h;have hln:=va (l.take i);rw[gh]at hln;obtain⟨⟨n0,n1⟩,n2⟩:=ok _ (ak h);generalize lA (l.take i)=L at hs hln;obtain⟨n,hn⟩:∃n,l[i]=n:=⟨_,rfl⟩;rw[hn]at hs n0 n1 n2;have e3:∀x:Int,0<=x->x<256->Go.IntKind.u8.wrap x=x:=λx h0 h=>by rw[DU];omega
 have w6:∀x:Int,0<=x->x<2^40->Go.IntKind.i64.wrap x=x:=λx h0 h=>al _ aa
 have q1:Go.IntKind.i64.wrap (n.tdiv 64)=n / 64:=by rw[yq n0];exact w6 _ aa aa
 have q2:Go.IntKind.i64.wrap (n.tdiv 4096)=n / 4096:=by rw[yq n0];exact w6 _ aa aa
 have q3:Go.IntKind.i64.wrap (n.tdiv 262144)=n / 262144:=by rw[yq n0];exact w6 _ aa aa
 have m0:n.tmod 64=n % 64:=yp n0;have m1:(n / 64).tmod 64=n / 64 % 64:=yp aa;have m2:(n / 4096).tmod 64=n / 4096 % 64:=yp aa;have v1:∀x:Int,0<=x->x<256->Go.IntKind.u8.wrap (Go.IntKind.i64.wrap x)=x:=λx h0 h=>by rw[w6 x h0 aa,e3 x h0 h]
 have p0:=v1 (128+n % 64) aa aa;have p1:=v1 (128+n / 64 % 64) aa aa;have p2:=v1 (128+n / 4096 % 64) aa aa;simp[h,hn];refine inl au Tryz.func287 30000 (λw1 F=>?_);by_cases c1:n<128
 ·have hen:rM n=[n]:=by unfold rM;rw[ai c1]
  rw[hen]at hs;simp[c1,e3 n n0 aa];exact zV
 by_cases c2:n<2048
 ·have hen:rM n=[192+n / 64,128+n % 64]:=by unfold rM;rw[aj c1,ai c2]
  rw[hen]at hs;simp[c1,c2,q1,m0,p0,v1 (192+n / 64) aa aa];exact zV
 by_cases c3:n<65536
 ·have hen:rM n=[224+n / 4096,128+n / 64 % 64,128+n % 64]:=by unfold rM;rw[aj c1,aj c2,ai c3]
  rw[hen]at hs;simp[c1,c2,c3,q1,q2,m0,m1,p0,p1,v1 (224+n / 4096) aa aa];exact zV
 ·have hen:rM n=[240+n / 262144,128+n / 4096 % 64,128+n / 64 % 64,128+n % 64]:=by unfold rM;rw[aj c1,aj c2,aj c3]
  rw[hen]at hs;simp[c1,c2,c3,q1,q2,q3,m0,m1,m2,p0,p1,p2,v1 (240+n / 262144) aa aa];exact zV
def oA(n:Int):Int:=if n<32\/n=127 then 63 else n
open Classical in
noncomputable def mO(t:List Int):ByteArray:=if dQ t then oY (t.map oA)else⟨#[]⟩
theorem PS(l:List Int):(oY l).size<=4*l.length:=by
 unfold oY
 split
 ·have:=va l
  simpa[ByteArray.size,toB]using this
 ·exact mT
theorem oK(t:List Int):(mO t).size<=4*t.length:=by
 unfold mO
 split
 ·have:=PS (t.map oA)
  exact mS
 ·exact mT
def qa(t:List Int)(i:Nat):List Int:=(t.take i).map oA++t.drop i
theorem aba{t:List Int}{i:Nat}(h:i<t.length):(qa t i).set i (oA t[i])=qa t (i+1):=by
 unfold qa;have hlen:((t.take i).map oA).length=i:=aJ;rw[Ft _ _ aa,hlen,vG,bj h,qf,<-dM h,iJ,bf];rfl
theorem abb{t:List Int}{i:Nat}(h:i<t.length):(qa t i)[i]? = some t[i]:=by
 unfold qa;have hlen:((t.take i).map oA).length=i:=aJ;rw[br aa,hlen,vG,bj h];rfl
theorem GQ(t:List Int)(hl:t.length<=2^40):aH Tryz.prog 25 [.c (.s (t.map aX))] (.one (.c (.v (.string (mO t))) 1)):=by
 refine pci au Tryz.func25 (λw0 base=>?_);simp;refine ae.pure (ln t hl) ab ?_;by_cases ok:dQ t
 rotate_left
 ·have e:mO t=⟨#[]⟩:=by unfold mO;rw[aj ok]
  simp[ok,e]
 have e:mO t=oY (t.map oA):=by unfold mO;rw[ai ok]
 rw[e]
 clear e
 simp[ok];refine ae.pure (nq t hl) ab ?_;simp;intro H0;refine aF eok (λx:Nat×Hd=>x.1<=t.length) (λx=>⟨30,0,[(13,.v (.int .i64 x.1)),(12,.v (.int .i64 t.length)),(11,.sl 160 x.2 1 0 t.length),(3,.sl 160 x.2 1 0 t.length)],[(160,.rows x.2 1 ((qa t x.1).map aX) true)]⟩) (λx=>t.length-x.1) (0,H0) ab (by simp[qa]) (λx hi=>Ent.refl ?_);obtain⟨i,H⟩:=x;simp only at hi⊢;by_cases h:i<t.length
 rotate_left
 ·have he:i=t.length:=by omega
  subst he;have e9:qa t t.length=t.map oA:=by unfold qa;simp
  simp[e9];refine ae.pure (Pe (t.map oA) uq) ab ?_;simp
 exact W6
theorem FS(t:List Int)(hl:t.length<=2^40):aH Tryz.prog 136 [.c (.s (t.map aX))] (.one (.c (.v (.string (mO t))) 1)):=by
 refine pci au Tryz.func136 (λw0 base=>?_);simp;refine ae.pure (mM t hl) ab ?_;by_cases ok:dQ t
 rotate_left
 ·have e:mO t=⟨#[]⟩:=by unfold mO;rw[aj ok]
  simp[ok,e]
 have e:mO t=oY (t.map oA):=by unfold mO;rw[ai ok]
 rw[e]
 clear e
 simp[ok];intro bb;refine⟨aa,λH0=>?_⟩;refine aF eok (λx:Nat×Hd=>x.1<=t.length) (λx=>⟨31,0,[(14,.v (.int .i64 x.1)),(13,.v (.int .i64 t.length)),(12,.sl 144 x.2 1 0 t.length),(3,.sl 144 x.2 1 0 t.length)],[(144,.rows x.2 1 ((qa t x.1).map aX) true)]⟩) (λx=>t.length-x.1) (0,H0) ab (by simp[qa]) (λx hi=>Ent.refl ?_);obtain⟨i,H⟩:=x;simp only at hi⊢;by_cases h:i<t.length
 rotate_left
 ·have he:i=t.length:=by omega
  subst he;have e9:qa t t.length=t.map oA:=by unfold qa;simp
  simp[e9];refine ae.pure (Oe (t.map oA) uq) ab ?_;simp
 exact W6
theorem gJ(k:Int):aH Tryz.prog 58 [.c (vi k)] (.one (.c (vb (cD k)) 1)):=by
 refine pci au Tryz.func58 (λw0 base=>?_);simp;refine ae.pure (cr k 1 5) ab ?_;simp[cD]
theorem pD(k:Int):aH Tryz.prog 110 [.c (vi k)] (.one (.c (vb (cD k)) 1)):=by
 refine pci au Tryz.func110 (λw0 base=>?_);simp;refine ae.pure (dT k 1 5) ab ?_;simp[cD]
theorem FX(k:Int):aH Tryz.prog 205 [.c (vi k)] (.one (.c (vb (1<=k/\k<=8)) 1)):=by
 refine pci au Tryz.func205 (λw0 base=>?_);simp;refine ae.pure (dT k 1 8) ab ?_;simp
theorem il(a b:Call)(ha:kC a<=2^40):aH Tryz.prog 162 [.agg a.row,.agg b.row] (.one (.c (vb (a=b)) 1)):=by
 refine pci au Tryz.func162 (λw0 base=>?_);obtain⟨a0,a1,a2,a3,a4,a5,a6⟩:=a;obtain⟨c0,c1,c2,c3,c4,c5,c6⟩:=b;unfold kC at ha;simp only at ha;simp[Call.row];intro b1 b2;by_cases h0:a0=c0
 rotate_left
 ·simp[h0]
 subst h0;by_cases h1:a1=c1
 rotate_left
 ·simp[h1]
 subst h1;by_cases h2:a2=c2
 rotate_left
 ·simp[h2]
 subst h2;by_cases h3:a3=c3
 rotate_left
 ·simp[h3]
 subst h3;by_cases h4:a4=c4
 rotate_left
 ·simp[h4]
 subst h4;simp;refine ae.pure (uP a5 c5 aa) ab ?_;by_cases h5:a5=c5
 rotate_left
 ·simp[h5]
 subst h5;simp;refine ae.pure (xD a6 c6 aa) ab ?_;by_cases h6:a6=c6
 ·simp[h6]
 ·simp[h6]
theorem uT(c:Call)(hl:kC c<=2^36):aH Tryz.prog 62 [.agg c.row] (.one (.c (vb (fE c)) 1)):=by
 refine pci au Tryz.func62 (λw0 base=>?_);have hu:=@PR c;have hx:∀p:Prop,(fE c->p)->¬p->dc (fE c)=false:=λp h1 h2=>aK (λh=>h2 (h1 h))
 have hl0:=hl;unfold kC at hl;simp[Call.row];intro b1;refine drw eok mix [0,1] [2,3,4,5,6,7,8,9,10,11,12,13,14,15,16,17,18,19,20,21,22,23,24,25] (.c 2 2 1 2 (.c 2 3 0 2 (.c 2 4 0 2 (.c 2 5 0 2 (.c 2 6 0 2 (.c 2 7 0 2 (.c 2 8 0 2 (.c 2 9 0 2 (.c 2 10 0 2 (.c 2 11 0 2 (.c 2 12 0 2 (.c 2 13 0 2 (.c 2 14 0 2 (.c 2 15 0 2 (.c 2 16 0 2 (.c 2 17 0 2 (.c 2 18 0 2 (.c 2 19 0 2 (.c 2 20 0 2 (.c 2 21 0 2 (.c 2 22 0 2 (.c 2 23 0 2 (.c 2 24 0 2 (.c 2 25 2 0 (.l 2 0) .s) .s) .s) .s) .s) (.c 2 21 0 2 (.c 2 20 0 2 (.c 2 22 0 2 (.c 2 23 0 2 (.c 2 24 0 2 (.c 2 25 2 0 (.l 2 0) .s) .s) .s) .s) (.c 2 22 0 2 (.c 2 20 0 2 (.c 2 23 0 2 (.c 2 24 0 2 (.c 2 25 2 0 (.l 2 0) .s) .s) .s) .s) .s)) .s)) .s) .s) .s) .s) .s) .s) .s) .s) .s) .s) .s) .s) .s) .s) .s) .s) .s) .s) ?_;simp;refine ae.pure (cr c.kind 1 8) ab ?_;by_cases s1:1<=c.kind/\c.kind<=8
 rotate_left
 ·simp[aK s1]
  rw[Trc];refine⟨?_,?_⟩
  ·simp[hx _ (λh=>h.1) s1]
  ·simp
   rw[Trc];refine⟨?_,?_⟩
   ·simp[hx _ (λh=>h.1) s1]
   ·simp[hx _ (λh=>h.1) s1]
 simp[s1];by_cases s2:c.doc.size<=8
 rotate_left
 ·have s2':¬(c.doc.size:Int)<=8:=by omega
  simp[s2'];rw[Trc];refine⟨?_,?_⟩
  ·simp[hx _ (λh=>h.2.1) s2]
  ·simp
   rw[Trc];refine⟨?_,?_⟩
   ·simp[hx _ (λh=>h.2.1) s2]
   ·simp[hx _ (λh=>h.2.1) s2]
 have s2':(c.doc.size:Int)<=8:=aa;simp[s2'];refine ae.pure (sC c.o aa) ab ?_;by_cases s3:gk c.o
 rotate_left
 ·simp[aK s3]
  rw[Trc];refine⟨?_,?_⟩
  ·simp[hx _ (λh=>h.2.2.1) s3]
  ·simp
   rw[Trc];refine⟨?_,?_⟩
   ·simp[hx _ (λh=>h.2.2.1) s3]
   ·simp[hx _ (λh=>h.2.2.1) s3]
 simp[s3];refine ae.pure (mu c.text aa) ab ?_;by_cases s4:eD c.text
 rotate_left
 ·simp[aK s4]
  rw[Trc];refine⟨?_,?_⟩
  ·simp[hx _ (λh=>h.2.2.2.1) s4]
  ·simp
   rw[Trc];refine⟨?_,?_⟩
   ·simp[hx _ (λh=>h.2.2.2.1) s4]
   ·simp[hx _ (λh=>h.2.2.2.1) s4]
 have fin:∀u,gp c=u->vb (c=u)=vb (fE c):=λu h=>by
  subst h;unfold vb
  congr 3
  apply propext
  exact⟨λh=>hu.2 ⟨s1,s2,s3,s4,h⟩,λh=>(hu.1 h).2.2.2.2⟩
 simp[s4];rw[Trc];refine⟨?_,?_⟩
 ·exact Mj
 ·simp
  rw[Trc];refine⟨?_,?_⟩
  ·exact Mj
  ·exact Mj
theorem Aj(c:Call)(hl:kC c<=2^36):aH Tryz.prog 114 [.agg c.row] (.one (.c (vb (fE c)) 1)):=by
 refine pci au Tryz.func114 (λw0 base=>?_);have hx:∀p:Prop,(fE c->p)->¬p->dc (fE c)=false:=λp h1 h2=>aK (λh=>h2 (h1 h))
 unfold kC at hl;simp[Call.row];intro b1;refine ae.pure (FX c.kind) ab ?_;by_cases s1:1<=c.kind/\c.kind<=8
 rotate_left
 ·simp[aK s1,hx _ (λh=>h.1) s1]
 simp[s1];by_cases s2:c.doc.size<=8
 rotate_left
 ·have s2':8<(c.doc.size:Int):=by omega
  simp[s2',hx _ (λh=>h.2.1) s2]
 have s2':¬8<(c.doc.size:Int):=aa;simp[s2'];refine ae.pure (su c.o aa) ab ?_;by_cases s3:gk c.o
 rotate_left
 ·simp[aK s3,hx _ (λh=>h.2.2.1) s3]
 simp[s3];refine ae.pure (mj c.text aa) ab ?_;by_cases s4:eD c.text
 rotate_left
 ·simp[aK s4,hx _ (λh=>h.2.2.2.1) s4]
 simp[s4];refine ae.pure (pD c.kind) ab ?_
 clear hx
 obtain⟨kind,doc,client,seq,n,o,text⟩:=c;simp only at s1 s2 s3 s4 s2'⊢
 have ho:(0<o.length)=¬o=[]:=by
  apply propext
  cases o<;>simp
 have ht:(0<text.length)=¬text=[]:=by
  apply propext
  cases text<;>simp
 have hk:kind=1\/kind=2\/kind=3\/kind=4\/kind=5\/kind=6\/kind=7\/kind=8:=aa;unfold vb;rcases hk with rfl|rfl|rfl|rfl|rfl|rfl|rfl|rfl
 ·have hd:cD 1:=by unfold cD;omega
  have e:dc (fE ⟨1,doc,client,seq,n,o,text⟩)=dc (o=[]/\seq=0/\client=0/\n=0):=by
   exact rX
  rw[e];simp[hd,ho];by_cases e0:o=[]<;>by_cases e1:seq=0<;>by_cases e2:client=0<;>by_cases e3:n=0<;>simp[e0,e1,e2,e3,ho]
 ·have hd:cD 2:=by unfold cD;omega
  have e:dc (fE ⟨2,doc,client,seq,n,o,text⟩)=dc (text=[]):=by
   exact rX
  rw[e];simp[hd,ht];by_cases e0:text=[]<;>simp[e0,ht]
 ·have hd:cD 3:=by unfold cD;omega
  have e:dc (fE ⟨3,doc,client,seq,n,o,text⟩)=dc (text=[]/\o=[]/\seq=0/\client=0):=by
   exact rX
  exact VI
 ·have hd:cD 4:=by unfold cD;omega
  have e:dc (fE ⟨4,doc,client,seq,n,o,text⟩)=dc (text=[]/\o=[]/\seq=0/\client=0/\n=0):=by
   exact rX
  rw[e];simp[hd,ht];by_cases e0:text=[]<;>by_cases e1:o=[]<;>by_cases e2:seq=0<;>by_cases e3:client=0<;>by_cases e4:n=0<;>simp[e0,e1,e2,e3,e4,ho,ht]
 ·have hd:cD 5:=by unfold cD;omega
  have e:dc (fE ⟨5,doc,client,seq,n,o,text⟩)=dc (text=[]/\o=[]/\seq=0/\client=0):=by
   exact rX
  exact VI
 ·have hd:¬cD 6:=by unfold cD;omega
  have e:dc (fE ⟨6,doc,client,seq,n,o,text⟩)=dc (doc=⟨#[]⟩/\text=[]/\o=[]/\seq=0):=by
   exact rX
  rw[e];simp[aK hd];by_cases e0:doc=⟨#[]⟩<;>by_cases e1:text=[]<;>by_cases e2:o=[]<;>by_cases e3:seq=0<;>simp[e0,e1,e2,e3,ho,ht]
 ·have hd:¬cD 7:=by unfold cD;omega
  have e:dc (fE ⟨7,doc,client,seq,n,o,text⟩)=dc (doc=⟨#[]⟩/\text=[]/\o=[]/\seq=0/\n=0):=by
   exact rX
  rw[e];simp[aK hd];by_cases e0:doc=⟨#[]⟩<;>by_cases e1:text=[]<;>by_cases e2:o=[]<;>by_cases e3:seq=0<;>by_cases e4:n=0<;>simp[e0,e1,e2,e3,e4,ho,ht]
 ·have hd:¬cD 8:=by unfold cD;omega
  have e:dc (fE ⟨8,doc,client,seq,n,o,text⟩)=dc (doc=⟨#[]⟩/\text=[]/\o=[]/\seq=0/\client=0/\n=0):=by
   exact rX
  rw[e];simp[aK hd];by_cases e0:doc=⟨#[]⟩<;>by_cases e1:text=[]<;>by_cases e2:o=[]<;>by_cases e3:seq=0<;>by_cases e4:client=0<;>by_cases e5:n=0<;>simp[e0,e1,e2,e3,e4,e5,ho,ht]
set_option maxHeartbeats 1600000
theorem act(n:Net)(i:Nat)(r:Rep)(e:Event):(DN n i r e).1.reps.length=n.reps.length:=by
 unfold DN j9
 split
 ·split<;>simp
 ·split
  ·split<;>simp
  ·split
   ·split<;>simp
   ·split
    ·split<;>simp
    ·split
     ·split<;>simp
     ·simp
theorem Hc(n:Net)(e:Event):(du n e).1.reps.length=n.reps.length:=by
 unfold du
 split
 ·exact act ..
 ·rfl
noncomputable def GV(n:Net)(i:Nat):Bool:=match n.reps[i]? with
 |some r=>r.has
 |none=>false
noncomputable def p9(n:Net)(i:Nat):Net:=if GV n i=true then(du n ⟨4,i,0,[]⟩).1 else n
noncomputable def vJ(n:Net)(i:Nat):Net:=(du (p9 n i) ⟨2,i,0,[]⟩).1
noncomputable def qW(n:Net)(i:Nat):Net×Int:=du (vJ n i) ⟨5,i,8,[]⟩
noncomputable def yX(n:Net)(i:Nat):Net:=if(qW n i).2=3 then(du (qW n i).1 ⟨6,i,0,[]⟩).1 else(qW n i).1
noncomputable def bN(n:Net):Nat->Net
 |0=>n
 |i+1=>yX (bN n i) i
noncomputable def eX(n:Net):Nat->Net
 |0=>n
 |k+1=>bN (eX n k) n.reps.length
open Classical in
noncomputable def jl(n:Net):Net×Bool:=if gS n then(eX n 6,dc (qD (eX n 6)))else(Net.zero,false)
theorem Yi(n:Net)(i:Nat):(p9 n i).reps.length=n.reps.length:=by unfold p9;split<;>simp[Hc]
theorem aas(n:Net)(i:Nat):(yX n i).reps.length=n.reps.length:=by
 unfold yX qW vJ
 split<;>simp[Hc,Yi]
theorem r8(n:Net):∀i,(bN n i).reps.length=n.reps.length
 |0=>rfl
 |i+1=>by unfold bN;rw[aas,r8 n i]
theorem za(n:Net):∀k,(eX n k).reps.length=n.reps.length
 |0=>rfl
 |k+1=>by unfold eX;rw[r8,za n k]
theorem Qr{n:Net}{i B:Nat}(hB:2^26<=B)(h:gT n<=B):gT (p9 n i)<=B/\gT (vJ n i)<=B/\gT (qW n i).1<=B/\gT (yX n i)<=B:=by
 have h1:gT (p9 n i)<=B:=by
  unfold p9
  split
  ·exact wI _ hB h
  ·exact h
 have h2:gT (vJ n i)<=B:=wI _ hB h1;have h3:gT (qW n i).1<=B:=wI _ hB h2;refine⟨h1,h2,h3,?_⟩;unfold yX
 split
 ·exact wI _ hB h3
 ·exact h3
theorem xH{n:Net}{B:Nat}(hB:2^26<=B)(h:gT n<=B):∀i,gT (bN n i)<=B
 |0=>h
 |i+1=>(Qr hB (xH hB h i)).2.2.2
theorem Ar{n:Net}{B:Nat}(hB:2^26<=B)(h:gT n<=B):∀k,gT (eX n k)<=B
 |0=>h
 |k+1=>xH hB (Ar hB h k) _
set_option maxHeartbeats 6400000
def bs(l:List UInt8):ByteArray:=⟨l.toArray⟩
theorem kD(l:List UInt8):(⟨l.toArray⟩:ByteArray)=bs l:=rfl
theorem iu(a b:List UInt8):bs a++bs b=bs (a++b):=by
 apply ByteArray.ext
 simp[bs]
theorem cO(l:List UInt8):(bs l).size=l.length:=by simp[bs,ByteArray.size]
theorem fF(l:List UInt8):(bs l).data.toList=l:=by simp[bs]
theorem oh(s:ByteArray):bs s.data.toList=s:=by cases s;simp[bs]
theorem gZ{a b:List UInt8}:bs a=bs b↔a=b:=⟨λh=>by have:=aO (λs=>s.data.toList) h;simpa[bs]using this,λh=>gq⟩
theorem Nr{l:List UInt8}{i:Nat}(h:i<(bs l).size):(bs l)[i]'h=l[i]'(by rw[cO]at h;exact h):=by
 simp[bs,ByteArray.getElem_eq_getElem_data]
theorem HL(l:List UInt8)(i j:Nat):(bs l).extract i j=bs ((l.take j).drop i):=by
 apply ByteArray.ext
 simp[bs,List.drop_take]
theorem ZZ{P:Program}{T:Nat->Option TI}{w0:World}{base:Bs}{t:Nat}{s:ByteArray}{k:IntKind}{F:AV->Prop} :
 Ja ⟨P,T,w0,base⟩ t (.v (.string s)) (.v (.int k 0)) F=(Env.isStr ⟨P,T,w0,base⟩ t/\∃h:0<s.size,F (.v (.int .u8 (s[0]'h).toNat))):=by
 simp[Ja]
attribute [simp ↓] ZZ
abbrev vs(l:List UInt8):CD:=.v (.string (bs l))
def wR(l:List UInt8):List CD:=[vs l]
theorem gV(l:List UInt8):(wR l).length=1:=rfl
def aW(n:Int):List UInt8:=if 0<=n/\n<=1000000000 then Lib.decDigits n.toNat else []
theorem u9{m:Nat}(h:m<10):Lib.decDigits m=[UInt8.ofNat (48+m)]:=Lib.decDigits_one h
theorem tL{m:Nat}(h:¬m<10):Lib.decDigits m=Lib.decDigits (m / 10)++[UInt8.ofNat (48+m % 10)]:=by rw[Lib.decDigits,Qk h]
theorem PK{m:Nat}(h:m<10):Lib.decDigits m=[UInt8.ofNat (48+m % 10)]:=by rw[u9 h,Nat.mod_eq_of_lt h]
theorem aeE:∀m:Nat,(Lib.decDigits m).length<=m+1:=by
 intro m
 induction m using Nat.strongRecOn with
 | ind m ih =>
   by_cases h:m<10
   ·rw[u9 h];simp
   ·rw[tL h]
    have:=ih (m / 10) aa;simp;omega
theorem PL(m:Nat):gP (UInt8.ofNat (48+m % 10))=[.v (.int .u8 (IntKind.u8.wrap (48+((m % 10:Nat):Int))))]:=by
 have h:m % 10<10:=Du _ aa;generalize m % 10=k at h
 have:∀k,k<10->gP (UInt8.ofNat (48+k))=[.v (.int .u8 (IntKind.u8.wrap (48+(k:Int))))]:=by
  intro k hk;rcases(by omega:k=0\/k=1\/k=2\/k=3\/k=4\/k=5\/k=6\/k=7\/k=8\/k=9)with rfl|rfl|rfl|rfl|rfl|rfl|rfl|rfl|rfl|rfl<;>rfl
 exact this k h
def bc(c:UInt8):List UInt8->List (List UInt8)
 | []=>[[]]
 | x :: l => if x = c then [] :: bc c l else match bc c l with
   | []=>[[x]]
   |w::r=>(x::w)::r
theorem ld(c:UInt8):∀l,bc c l≠[]
 | []=>by simp[bc]
 | x :: l => by
   unfold bc
   split
   ·simp
   ·split<;>simp
theorem uv(c:UInt8):∀(a b:List UInt8),c∉a->bc c (a++c::b)=a::bc c b
 | [],b,_=>by simp[bc]
 | x :: a, b, h => by
   have hx:x≠c:=λe=>h (by simp[e])
   have ih:=uv c a b (λe=>h (by simp[e]));simp[bc,hx,ih]
theorem xB(c:UInt8):∀(a:List UInt8),c∉a->bc c a=[a]
 | [],_=>by simp[bc]
 | x :: a, h => by
   have hx:x≠c:=λe=>h (by simp[e])
   have ih:=xB c a (λe=>h (by simp[e]));simp[bc,hx,ih]
theorem pC(c:UInt8):∀(l:List (List UInt8)),l≠[]->(∀w∈l,c∉w)->bc c (Lib.join l [c])=l
 | [],h,_=>absurd rfl h
 | [w],_,h=>by rw[kr,xB c w (h w ab)]
 | w :: v :: r, _, h => by
   have e:Lib.join (w::v::r) [c]=w++c::Lib.join (v::r) [c]:=by
    exact LA
   rw[e,uv c _ _ (h w ab),pC c (v::r) ab (λu hu=>h u (by simp[hu]))]
theorem GM(c:UInt8):∀l:List UInt8,Lib.join (bc c l) [c]=l
 | []=>by simp[bc,kr]
 | x :: l => by
   have ih:=GM c l;unfold bc
   split
   ·rename_i h
    subst h
    cases hs:bc x l with
    |nil=>exact absurd hs (ld x l)
    | cons w r =>
      rw[hs]at ih;rw[Cs]at ih⊢;simp only[Lib.joinTail,bR,Qn,gb,bU];rw[<-ih];simp[Lib.joinTail]
   ·split
    ·rename_i hs;exact absurd hs (ld c l)
    ·rename_i w r hs
     rw[hs,Cs]at ih;rw[Cs,bU,ih]
theorem dK(c:UInt8):∀(l:List UInt8),(bc c l).length<=l.length+1/\∀w∈bc c l,w.length<=l.length
 | []=>by simp[bc]
 | x :: l => by
   have ih:=dK c l;unfold bc
   split
   ·refine⟨aJ,λw hw=>?_⟩
    rcases aQ.1 hw with rfl|hw
    ·simp
    ·have:=ih.2 w hw;simp;omega
   ·split
    ·simp
    ·rename_i v r hs
     rw[hs]at ih;refine⟨by have:=ih.1;simp at this⊢;omega,λw hw=>?_⟩;rcases aQ.1 hw with rfl|hw
     ·have:=ih.2 v ab;simp;omega
     ·have:=ih.2 w (by simp[hw]);simp;omega
def MO(W:List (List UInt8)):Nat:=(W.map λw=>w.length+1).sum
theorem xO(w:List UInt8)(W:List (List UInt8)):MO (w::W)=w.length+1+MO W:=by simp[MO]
theorem zg(c:UInt8):∀l:List UInt8,MO (bc c l)=l.length+1
 | []=>by simp[bc,MO]
 | x :: l => by
   have ih:=zg c l;unfold bc
   split
   ·rw[xO,ih];simp;omega
   ·split
    ·rename_i hs;exact absurd hs (ld c l)
    ·rename_i w r hs
     rw[hs,xO]at ih;rw[xO];simp;omega
theorem J0{W:List (List UInt8)}{i:Nat}(h:i<W.length):MO (W.drop i)=W[i].length+1+MO (W.drop (i+1)):=by
 rw[bj h,xO]
theorem Zd(c:UInt8)(w:List UInt8):∀W:List (List UInt8),Lib.join (W++[w]) [c]=if W=[]then w else Lib.join W [c]++c::w
 | []=>by simp[kr]
 | x :: W => by
   rw[bU,Cs,Cs,aj ab];simp[Lib.joinTail]
attribute [local simp] kD iu cO gZ
theorem bY(n:Int):aH Tryz.prog 47 [.c (vi n)] (.one (.c (vs (aW n)) 1)):=by
 refine pci au Tryz.func47 (λw0 base=>?_);simp;refine ae.pure (dT n 0 1000000000) ab ?_;by_cases h:0<=n/\n<=1000000000
 rotate_left
 ·simp[h,aW]
 simp[h];obtain⟨m,rfl⟩:∃m:Nat,n=m:=⟨n.toNat,aa⟩;have hm:m<=1000000000:=aa;have hL:=aeE m;refine aF eok (λx:Nat×List UInt8=>x.1<=m/\Lib.decDigits x.1++x.2=Lib.decDigits m) (λx=>⟨26,0,[(3,.v (.string (bs x.2))),(0,.v (.int .i64 x.1))],[]⟩) (λx=>x.1) (m,[]) ⟨ab,ab⟩ ab (λx hi=>Ent.refl ?_);obtain⟨k,s⟩:=x;obtain⟨h1,h2⟩:=hi;simp only at h1 h2⊢;have hs:s.length<=m+1:=by have:=aO List.length h2;simp at this;omega
 by_cases h9:(9:Int)<k
 ·have e10:(k:Int).tmod 10=((k % 10:Nat):Int):=(Int.ofNat_tmod k 10).symm
  have e11:IntKind.i64.wrap (48+((k % 10:Nat):Int))=48+((k % 10:Nat):Int):=ui;have e12:IntKind.i64.wrap ((k:Int) / 10)=((k / 10:Nat):Int):=ui;simp[h9];intro b;refine⟨[UInt8.ofNat (48+k % 10)],?_,aJ,Ent.refl ⟨k / 10,UInt8.ofNat (48+k % 10)::s,⟨aa,?_⟩,aa,?_⟩⟩
  ·rw[e10,e11];simp only[bR,jb,PL]
  ·rw[<-h2,tL (by omega:¬k<10)];simp
  ·rw[e12];simp
 ·have hk:k<10:=by omega
  have e11:IntKind.i64.wrap (48+(k:Int))=48+((k % 10:Nat):Int):=ui;simp[h9];refine⟨[UInt8.ofNat (48+k % 10)],?_,aJ,?_⟩
  ·rw[e11];simp only[bR,jb,PL]
  ·unfold aW
   rw[ai aa,<-PK hk,bp,h2]
theorem CH(l:List UInt8)(c:UInt8)(hl:l.length<=2^40):aH Tryz.prog 133 [.c (vs l),.c (.v (.int .u8 c.toNat))] (.one (.c (.s ((bc c l).map wR)) 1)):=by
 refine pci au Tryz.func133 (λw0 base=>?_);simp;intro b
 refine aF eok (λx:Nat×Nat×List (List UInt8)×Hd=>x.2.2.1.length<=x.1/\((x.1<=l.length/\x.2.1<=x.1/\c∉(l.take x.1).drop x.2.1/\x.2.2.1++bc c (l.drop x.2.1)=bc c l)\/(x.1=l.length+1/\x.2.2.1=bc c l)))
  (λx=>⟨36,0,[(7,.v (.int .i64 x.1)),(6,.v (.int .i64 x.2.1)),(5,.sl 128 x.2.2.2 1 0 x.2.2.1.length),(1,.v (.int .u8 c.toNat)),(0,.v (.string (bs l)))],[(128,.rows x.2.2.2 1 (x.2.2.1.map wR) true)]⟩)
  (λx=>l.length+1-x.1) (0,0,[],some (b,0,0)) ⟨ab,.inl ⟨ab,ab,ab,ab⟩⟩ ab (λx hi=>Ent.refl ?_)
 obtain⟨i,f,R,H⟩:=x;obtain⟨hR,hi⟩:=hi;simp only at hR hi⊢;rcases hi with⟨h1,h2,h3,h4⟩|⟨rfl,rfl⟩;rotate_left
 ·have h9:¬((l.length:Int)+1<=l.length):=by omega
  simp[h9,gV]
 have h9:(i:Int)<=l.length:=aa;have w1:IntKind.i64.wrap ((i:Int)+1)=((i+1:Nat):Int):=bL aa;have he:((l.take i).drop f).length=i-f:=aJ;have hex:(bs l).extract f i=bs ((l.take i).drop f):=HL _ _ _;have hbi:∀x:List UInt8,((R++[x]).map wR)=R.map wR++[[vs x]]:=λx=>by simp[wR]
 by_cases hlt:i<l.length
 ·have hne:¬((i:Int)=l.length):=by omega
  have hdrop:l.drop f=(l.take i).drop f++l[i]::l.drop (i+1):=by
   have e:=gD i l;have e2:=bj hlt;rw[<-e2]
   conv=>lhs;rw[<-e]
   rw[tY aJ]
  have hget:∀h,(bs l)[i]'h=l[i]'hlt:=λh=>Nr h
  by_cases hc:l[i]=c
  ·have hc':(l[i].toNat:Int)=(c.toNat:Int):=by rw[hc]
   simp[h9,hne,hlt,hget];simp[hc',hex];refine⟨aa,aa,λb1=>⟨aa,λH1=>Ent.refl ⟨i+1,i+1,R++[(l.take i).drop f],⟨aJ,.inl ⟨aa,aa,ab,?_⟩⟩,aa,H1,?_⟩⟩⟩
   ·rw[<-h4,hdrop,hc,uv c _ _ h3]
    simp
   ·simp[w1,wR]
  ·have hc':¬(l[i].toNat:Int)=(c.toNat:Int):=λh=>hc (iH.1 aa)
   simp[h9,hne,hlt,hget];simp[hc'];refine Ent.refl ⟨i+1,f,R,⟨aa,.inl ⟨aa,aa,?_,h4⟩⟩,aa,H,?_⟩
   ·rw[iw hlt,tY aJ]
    intro h;rcases aG.1 h with h|h
    ·exact h3 h
    ·exact hc (eU.1 h).symm
   ·simp[w1]
 ·have hei:i=l.length:=by omega
  have e1:(bs l).extract f l.length=bs (l.drop f):=by rw[HL,dH]
  simp[hei,e1];refine⟨aa,λb1=>⟨aa,λH1=>Ent.refl ⟨l.length+1,l.length+1,R++[l.drop f],⟨aJ,.inr ⟨rfl,?_⟩⟩,aa,H1,?_⟩⟩⟩
  ·rw[hei,dH]at h3
   rw[<-h4,xB c _ h3]
  ·rw[hei]at w1
   simp[w1,wR]
end Go.Proofs.YtmccaifipoohfaaGreatDoor
