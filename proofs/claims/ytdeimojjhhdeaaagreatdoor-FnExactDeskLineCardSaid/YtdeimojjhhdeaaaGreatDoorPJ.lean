import Derived.Test.YtdeimojjhhdeaaaGreatDoorPD
import Derived.Test.YtdeimojjhhdeaaaGreatDoorPI
import Derived.Test.YtdeimojjhhdeaaaGreatDoorPF
import Derived.Test.YtdeimojjhhdeaaaGreatDoorPB
import Derived.Test.YtdeimojjhhdeaaaGreatDoorPH
namespace Go.Proofs.YtdeimojjhhdeaaaGreatDoor
open Go.AM
set_option maxRecDepth 20000
set_option maxHeartbeats 1600000
theorem zX(name:ByteArray)(t:List Int)(h1:name.size<=2^28)(h2:t.length<=2^28):ar Tryz.prog 145 [.c (.v (.string name)),.c (.s (t.map aN))] (.tup [.agg (gY name t).1.res,.c (.v (.bool (gY name t).2)) 1]):=by
 refine pci aq Tryz.func145 (λw0 base=>?_);have hn:=PW name t;simp;intro b4;refine ae.pure (mz t aa) ab ?_;simp;intro H9 b6;refine ae.pure (jk (ju name t) aa) (by simp[Doc.row,ju]) ?_;exact Uz
theorem zt(name:ByteArray)(t:List Int)(h1:name.size<=2^28)(h2:t.length<=2^28):ar Tryz.prog 179 [.c (.v (.string name)),.c (.s (t.map aN))] (.tup [.agg (gY name t).1.res,.c (.v (.bool (gY name t).2)) 1]):=by
 refine pci aq Tryz.func179 (λw0 base=>?_);have hn:=PW name t;simp;intro b4 b8;refine⟨aa,λH9 b6=>?_⟩;refine ae.pure (jh (ju name t) aa) (by simp[Doc.row,ju]) ?_;exact Uz
theorem Lg(name:ByteArray)(_:name.size<=9223372036854775807)(h0:name.size<=2^20)(t:List Int)(ft:t.length<=9223372036854775807/\∀n∈t,gR n)(h1:t.length<=2^20)(many:Int)(_:gR many) :
 ar Tryz.prog 41 [.c (.v (.string name)),.c (.s (t.map aN)),.c (vi many)] (.tup [.agg (gX name t many).1.res,.c (.v (.bool (gX name t many).2)) 1]):=by
 refine pci aq Tryz.func41 (λw0 base=>?_);have hno:=yE (name:=name) (t:=t) (many:=many);have hyes:=vK (name:=name) (t:=t) (many:=many);simp;intro b6;refine ae.pure (zX name t aa aa) ab ?_;generalize gY name t=D at hno hyes⊢;obtain⟨d,ok⟩:=D;simp only at hno hyes⊢;simp[Doc.res];intro H2 H3 H4 b8
 cases ok with
 | false =>
   have e:=hno ab;simp[e,Net.res,Net.zero,Doc.zero]
 |true=>
 simp;refine ae.pure (bW many 1 4) ab ?_;by_cases c:1<=many/\many<=4
 rotate_left
 ·have e:=hno (λh=>c h.2)
  simp[aH c,e,Net.res,Net.zero,Doc.zero]
 have e:=hyes ⟨rfl,c⟩;simp[c];intro b10;obtain⟨m,rfl⟩:∃m:Nat,many=m:=⟨many.toNat,aa⟩;simp only[bm]at e
 refine aE eok (λx:Nat×Hd=>x.1<=m) (λx=>⟨49,0,[(11,.v (.int .i64 x.1)),(2,.v (.int .i64 m)),(1,.ro (t.map aN)),(6,.p 96 b6 0),(10,.p 160 b10 0)],
  [(160, .vars b10 47 [.v (.string d.name), .v (.int .i64 d.fr), .sl 274 H2 1 0 d.text.length, .sl 275 H3 3 0 d.list.length, .sl 276 H4 3 0 d.seen.length, .sl 5000 x.2 7 0 x.1]),(96, .vars b6 47 [.v (.string ⟨#[]⟩), .v (.int .i64 0), .nil, .nil, .nil, .nil]),
   (274,.rows H2 1 (d.text.map aN) true),(275,.rows H3 3 (d.list.map Entry.row) true),(276,.rows H4 3 (d.seen.map Seen.row) true),(5000,.rows x.2 7 ((lD t x.1).map Rep.row) true)]⟩) (λx=>m-x.1) (0,none) ab (by simp[lD]) (λx hi=>Ent.refl ?_)
 obtain⟨i,H⟩:=x;simp only at hi⊢;by_cases hlt:i<m
 ·have ew:Go.IntKind.i64.wrap ((i:Int)+1)=(i:Int)+1:=ah _ aa
  simp[hlt,ew];refine ae.pure (Lc ((i:Int)+1) qJ 0 qJ 0 qJ t ft h1) ab ?_;have hs:=vm t i;generalize fe ((i:Int)+1) 0 0 t=Q at hs⊢;obtain⟨r,ok2⟩:=Q;simp only at hs⊢;simp[Rep.res];intro G3 G5 G6 b12;simp[ra];intro b45;refine⟨aa,λH'=>Ent.refl ⟨i+1,aa,aa,H',?_⟩⟩;rw[hs];simp[Rep.row,ew]
 ·have hm:i=m:=by omega
  subst hm;simp[e,Net.res,ra]
theorem KE(name:ByteArray)(_:name.size<=9223372036854775807)(h0:name.size<=2^20)(t:List Int)(ft:t.length<=9223372036854775807/\∀n∈t,gR n)(h1:t.length<=2^20)(many:Int)(_:gR many) :
 ar Tryz.prog 95 [.c (.v (.string name)),.c (.s (t.map aN)),.c (vi many)] (.tup [.agg (gX name t many).1.res,.c (.v (.bool (gX name t many).2)) 1]):=by
 refine pci aq Tryz.func95 (λw0 base=>?_);have hno:=yE (name:=name) (t:=t) (many:=many);have hyes:=vK (name:=name) (t:=t) (many:=many);simp;intro b6;refine ae.pure (zt name t aa aa) ab ?_;generalize gY name t=D at hno hyes⊢;obtain⟨d,ok⟩:=D;simp only at hno hyes⊢;simp[Doc.res];intro H2 H3 H4 b8
 cases ok with
 | false =>
   have e:=hno ab;simp[e,Net.res,Net.zero,Doc.zero]
 |true=>
 simp;refine ae.pure (dH many 1 4) ab ?_;by_cases c:1<=many/\many<=4
 rotate_left
 ·have e:=hno (λh=>c h.2)
  simp[aH c,e,Net.res,Net.zero,Doc.zero]
 have e:=hyes ⟨rfl,c⟩;simp[c];intro b10;obtain⟨m,rfl⟩:∃m:Nat,many=m:=⟨many.toNat,aa⟩;simp only[bm]at e
 refine aE eok (λx:Nat×Hd=>x.1<=m) (λx=>⟨48,0,[(11,.v (.int .i64 ((x.1:Int)+1))),(2,.v (.int .i64 m)),(1,.ro (t.map aN)),(6,.p 96 b6 0),(10,.p 160 b10 0)],
  [(160, .vars b10 47 [.v (.string d.name), .v (.int .i64 d.fr), .sl 274 H2 1 0 d.text.length, .sl 275 H3 3 0 d.list.length, .sl 276 H4 3 0 d.seen.length, .sl 5000 x.2 7 0 x.1]),(96, .vars b6 47 [.v (.string ⟨#[]⟩), .v (.int .i64 0), .nil, .nil, .nil, .nil]),
   (274,.rows H2 1 (d.text.map aN) true),(275,.rows H3 3 (d.list.map Entry.row) true),(276,.rows H4 3 (d.seen.map Seen.row) true),(5000,.rows x.2 7 ((lD t x.1).map Rep.row) true)]⟩) (λx=>m-x.1) (0,none) ab (by simp[lD]) (λx hi=>Ent.refl ?_)
 obtain⟨i,H⟩:=x;simp only at hi⊢;by_cases hlt:i<m
 ·have hlt':(i:Int)+1<=m:=by omega
  have ew2:Go.IntKind.i64.wrap ((i:Int)+1+1)=(i:Int)+1+1:=ah _ aa;simp[hlt'];refine ae.pure (Kz ((i:Int)+1) qJ 0 qJ 0 qJ t ft h1) ab ?_;have hs:=vm t i;generalize fe ((i:Int)+1) 0 0 t=Q at hs⊢;obtain⟨r,ok2⟩:=Q;simp only at hs⊢;simp[Rep.res];intro G3 G5 G6 b12;simp[ra];intro b45;refine⟨aa,λH'=>Ent.refl ⟨i+1,aa,aa,H',?_⟩⟩;rw[hs];simp[Rep.row,ew2]
 ·have hm:i=m:=by omega
  subst hm;have hlt':¬(i:Int)+1<=i:=aa;simp[hlt',e,Net.res,ra]
set_option maxHeartbeats 3200000
def gV:ByteArray:=⟨#[110,101,116]⟩
theorem zY(d:Desk)(hl:gW d<=2^30):ar Tryz.prog 28 [.agg d.row] (.one (.c (vb (bI d.h/\gz d.n)) 1)):=by
 refine pci aq Tryz.func28 (λw0 base=>?_);unfold gW at hl;simp[Desk.row];intro b1;refine ae.pure (fW d.h aa) bV ?_;by_cases c1:bI d.h
 rotate_left
 ·have h:¬(bI d.h/\gz d.n):=λh=>c1 h.1
  exact oj
 simp[c1];refine ae.pure (vz d.n aa) iN ?_;simp
theorem KG(d:Desk)(hl:gW d<=2^30):ar Tryz.prog 14 [.agg d.row] (.one (.c (vb (bI d.h/\gz d.n)) 1)):=by
 refine pci aq Tryz.func14 (λw0 base=>?_);unfold gW at hl;simp[Desk.row];intro b1;refine ae.pure (jg d.h aa) bV ?_;by_cases c1:bI d.h
 rotate_left
 ·have h:¬(bI d.h/\gz d.n):=λh=>c1 h.1
  exact oj
 simp[c1];refine ae.pure (uT d.n aa) iN ?_;simp
set_option maxHeartbeats 6400000
def pY(c:Int)(t:List Int)(s:List Int×Int)(p:Part):List Int×Int:=
 if p.kind=1 then(s.1++(t.drop s.2.toNat).take p.n.toNat,s.2+p.n)else if p.kind=2 then(s.1++List.replicate p.signs.length c,s.2)else(s.1,s.2+p.n)
def kM(o:List Part)(t:List Int)(c:Int):List Int×Int:=o.foldl (pY c t) ([],0)
theorem AF{o:List Part}{t:List Int}{c:Int}{i:Nat}(h:i<o.length):kM (o.take (i+1)) t c=pY c t (kM (o.take i) t c) o[i]:=by
 unfold kM;exact wA
def I5(o:List Part)(t:List Int):Prop:=cz o/\bS o=t.length
open Classical in
noncomputable def jC(o:List Part)(t:List Int)(c:Int):List Int×Bool:=if I5 o t then((kM o t c).1,true)else([],false)
theorem uL{o:List Part}{t:List Int}{c:Int}(ho:∀p∈o,aY p):∀(i:Nat),i<=o.length->(kM (o.take i) t c).2=dF fK (o.take i)+dF fD (o.take i)/\(kM (o.take i) t c).1.length<=200*i
 |0,_=>by simp[kM,dF]
 | i + 1, hi => by
   have hlt:i<o.length:=aa;obtain⟨h1,h2⟩:=uL (t:=t) (c:=c) ho i aa;have hb:=(ho _ (ao hlt)).bounds;rw[AF hlt,gg hlt,gg hlt];generalize kM (o.take i) t c=s at h1 h2;obtain⟨L,a⟩:=s;simp only at h1 h2;generalize dF fK (o.take i)=x1 at h1⊢;generalize dF fD (o.take i)=x2 at h1⊢;unfold pY fK fD;exact S4
theorem Mm{o:List Part}{t:List Int}{c:Int}(h:I5 o t){i:Nat}(hi:i<o.length):0<=(kM (o.take i) t c).2/\(o[i].kind≠2->(kM (o.take i) t c).2+o[i].n<=t.length)/\(kM (o.take i) t c).2<=t.length:=by
 have ho:=h.1.1.1;have h1:=(uL (t:=t) (c:=c) ho i aa).1;have hf:bS o=dF fK o+dF fD o:=by unfold bS ec;rw[al h.1.1]
 have h2:=lv (λp hp=>(PL hp).1) ho (i+1);have h3:=lv (λp hp=>(PP hp).1) ho (i+1);have h4:=gn (f:=fK) (λp h=>PL h) (pA ho i);have h5:=gn (f:=fD) (λp h=>PP h) (pA ho i);have h6:=gg (f:=fK) hi;have h7:=gg (f:=fD) hi;have h8:=h.2;exact UD
theorem Ml{o:List Part}{t:List Int}{c:Int}:(jC o t c).1.length<=120000:=by
 unfold jC
 split
 ·rename_i h
  have h1:=(uL (t:=t) (c:=c) h.1.1.1 o.length (aC _)).2;rw[dn]at h1;have:=h.1.1.2;exact gT
 ·simp
noncomputable def pb(l:List Entry)(w:List Int):Nat->List Int
 |0=>w
 | i + 1 => match l[i]? with
   |some e=>(jC e.o (pb l w i) e.client).1
   |none=>pb l w i
open Classical in
noncomputable def er(d:Doc):List Int:=if cf d then pb d.list (List.replicate d.text.length 0) d.list.length else []
theorem Je{l:List Entry}{w:List Int}{i:Nat}(h:i<l.length):pb l w (i+1)=(jC l[i].o (pb l w i) l[i].client).1:=by
 rw[pb,au h]
theorem xd{l:List Entry}{w:List Int}(hw:w.length<=120000):∀i,(pb l w i).length<=120000
 |0=>hw
 | i + 1 => by
   rw[pb]
   split
   ·exact Ml
   ·exact xd hw i
theorem Hz(o:List Part)(t:List Int)(cl:Int)(hl:nL aM o<=2^40)(ht:t.length<=2^40):ar Tryz.prog 246 [.c (.s (o.map Part.row)),.c (.s (t.map aN)),.c (vi cl)] (.tup [.c (.s ((jC o t cl).1.map aN)) 1,.c (.v (.bool (jC o t cl).2)) 1]):=by
 refine pci aq Tryz.func246 (λw0 base=>?_);simp;have no:¬I5 o t->jC o t cl=([],false):=λh=>by unfold jC;rw[ak h]
 refine ae.pure (ep o hl) ab ?_;by_cases c1:cz o
 rotate_left
 ·exact J9
 simp[c1];refine ae.pure (iA o hl) ab ?_;by_cases c3:bS o=t.length
 rotate_left
 ·simp[c3,no (λh=>c3 h.2)]
 have hf:I5 o t:=⟨c1,c3⟩;have e:jC o t cl=((kM o t cl).1,true):=by unfold jC;rw[al hf]
 have ho:=c1.1.1;have hlen:=c1.1.2;simp[c3,e];refine aE eok (λx:Nat×Hd=>x.1<=o.length) (λx=>⟨63,0,[(24,.v (.int .i64 x.1)),(23,.v (.int .i64 o.length)),(22,.ro (o.map Part.row)),(9,.v (.int .i64 (kM (o.take x.1) t cl).2)),(8,.sl 5000 x.2 1 0 (kM (o.take x.1) t cl).1.length),(1,.ro (t.map aN)),(2,.v (.int .i64 cl))],[(5000,.rows x.2 1 ((kM (o.take x.1) t cl).1.map aN) true)]⟩) (λx=>o.length-x.1) (0,none) ab (by simp[kM]) (λx hi=>Ent.refl ?_);obtain⟨i,H⟩:=x;simp only at hi⊢;by_cases h:i<o.length
 ·skip
  have hin:=Mm (c:=cl) hf h;have hat:=uL (t:=t) (c:=cl) ho i hi;have hb:=(ho _ (ao h)).bounds;have hs:=AF (t:=t) (c:=cl) h;generalize kM (o.take i) t cl=s at hin hat hs;obtain⟨L,a⟩:=s;simp only at hin hat hs;obtain⟨a',rfl⟩:∃a':Nat,a=a':=⟨a.toNat,aa⟩;obtain⟨n,hn⟩:∃n:Nat,o[i].n=n:=⟨o[i].n.toNat,aa⟩;have e:Go.IntKind.i64.wrap ((i:Int)+1)=((i+1:Nat):Int):=aZ aa;have ea:Go.IntKind.i64.wrap ((a':Int)+n)=(a':Int)+n:=ah _ aa;rw[hn]at hin;simp[h,Part.row];intro b9;by_cases k1:o[i].kind=1
  ·exact UW
  ·by_cases k3:o[i].kind=3
   ·have k2:¬o[i].kind=2:=by omega
    exact Ug
   ·have k2:o[i].kind=2:=by omega
    have hst:pY cl t (L,(a':Int)) o[i]=(L++List.replicate o[i].signs.length cl,(a':Int)):=by simp[pY,k2]
    rw[hst]at hs;have hsl:o[i].signs.length<=200:=Qz;obtain⟨z,hz⟩:∃z,o[i].signs.length=z:=⟨_,rfl⟩;rw[hz]at hs hsl;simp[k2,hz]
    refine aE eok (λx:Nat×Hd=>x.1<=z) (λx=>⟨63,0,[(33,.v (.int .i64 x.1)),(32,.v (.int .i64 z)),(24,.v (.int .i64 i)),(23,.v (.int .i64 o.length)),(22,.ro (o.map Part.row)),(9,.v (.int .i64 a')),(8,.sl 5000 x.2 1 0 (L.length+x.1)),(1,.ro (t.map aN)),(2,.v (.int .i64 cl))],
     [(5000,.rows x.2 1 ((L++List.replicate x.1 cl).map aN) true)]⟩) (λx=>z-x.1) (0,H) (dz _) ab (λx hx=>Ent.refl ?_)
    exact UO
 ·exact DR
theorem G0(o:List Part)(t:List Int)(cl:Int)(hl:nL aM o<=2^40)(ht:t.length<=2^40):ar Tryz.prog 295 [.c (.s (o.map Part.row)),.c (.s (t.map aN)),.c (vi cl)] (.tup [.c (.s ((jC o t cl).1.map aN)) 1,.c (.v (.bool (jC o t cl).2)) 1]):=by
 refine pci aq Tryz.func295 (λw0 base=>?_);simp;have no:¬I5 o t->jC o t cl=([],false):=λh=>by unfold jC;rw[ak h]
 refine ae.pure (eo o hl) ab ?_;by_cases c1:cz o
 rotate_left
 ·exact J9
 simp[c1];refine ae.pure (gB o hl) ab ?_;by_cases c3:(t.length:Int)=bS o
 rotate_left
 ·simp[c3,no (λh=>c3 h.2.symm)]
 have hf:I5 o t:=⟨c1,c3.symm⟩;have e:jC o t cl=((kM o t cl).1,true):=by unfold jC;rw[al hf]
 have ho:=c1.1.1;have hlen:=c1.1.2;simp[c3,e];intro b;refine aE eok (λx:Nat×Hd=>x.1<=o.length) (λx=>⟨64,0,[(25,.v (.int .i64 x.1)),(24,.v (.int .i64 o.length)),(23,.ro (o.map Part.row)),(9,.v (.int .i64 (kM (o.take x.1) t cl).2)),(8,.sl 352 x.2 1 0 (kM (o.take x.1) t cl).1.length),(1,.ro (t.map aN)),(2,.v (.int .i64 cl))],[(352,.rows x.2 1 ((kM (o.take x.1) t cl).1.map aN) true)]⟩) (λx=>o.length-x.1) (0,some (b,0,0)) ab (by simp[kM]) (λx hi=>Ent.refl ?_);obtain⟨i,H⟩:=x;simp only at hi⊢;by_cases h:i<o.length
 ·skip
  have hin:=Mm (c:=cl) hf h;have hat:=uL (t:=t) (c:=cl) ho i hi;have hb:=(ho _ (ao h)).bounds;have hs:=AF (t:=t) (c:=cl) h;generalize kM (o.take i) t cl=s at hin hat hs;obtain⟨L,a⟩:=s;simp only at hin hat hs;obtain⟨a',rfl⟩:∃a':Nat,a=a':=⟨a.toNat,aa⟩;obtain⟨n,hn⟩:∃n:Nat,o[i].n=n:=⟨o[i].n.toNat,aa⟩;have e:Go.IntKind.i64.wrap ((i:Int)+1)=((i+1:Nat):Int):=aZ aa;have ea:Go.IntKind.i64.wrap ((a':Int)+n)=(a':Int)+n:=ah _ aa;rw[hn]at hin;simp[h,Part.row];intro b9;by_cases k1:o[i].kind=1
  ·exact UW
  ·by_cases k2:o[i].kind=2
   ·skip
    have hst:pY cl t (L,(a':Int)) o[i]=(L++List.replicate o[i].signs.length cl,(a':Int)):=by simp[pY,k2]
    rw[hst]at hs;have hsl:o[i].signs.length<=200:=Qz;obtain⟨z,hz⟩:∃z,o[i].signs.length=z:=⟨_,rfl⟩;rw[hz]at hs hsl;simp[k2,hz]
    refine aE eok (λx:Nat×Hd=>x.1<=z) (λx=>⟨64,0,[(55,.v (.int .i64 x.1)),(54,.v (.int .i64 z)),(25,.v (.int .i64 i)),(24,.v (.int .i64 o.length)),(23,.ro (o.map Part.row)),(9,.v (.int .i64 a')),(8,.sl 352 x.2 1 0 (L.length+x.1)),(1,.ro (t.map aN)),(2,.v (.int .i64 cl))],
     [(352,.rows x.2 1 ((L++List.replicate x.1 cl).map aN) true)]⟩) (λx=>z-x.1) (0,H) (dz _) ab (λx hx=>Ent.refl ?_)
    exact UO
   ·have k3:o[i].kind=3:=by omega
    exact Ug
 ·exact DR
theorem A9(d:Doc)(hl:cO d<=2^30):jm Tryz.prog 136 [.agg d.row] (λrr=>rr=.one (.c (.s ((er d).map aN)) 1)):=by
 refine jm.intro aq Tryz.func136 ai rfl rfl rfl (aj rfl) (λw0 base o=>?_);simp[Doc.row];intro b1;refine ae.ro (jk d aa) aS ?_;by_cases ok:cf d
 rotate_left
 ·exact Rg
 have e:er d=pb d.list (List.replicate d.text.length 0) d.list.length:=by unfold er;rw[al ok]
 rw[e];have ht:=ok.2.2.1.1;have hlist:=ok.2.2.2.1;have hent:=ok.2.2.2.2.1;have hwl:=λi=>xd (l:=d.list) (w:=List.replicate d.text.length 0) JG i
 simp[ok];refine⟨aa,λb3=>?_⟩;refine pX (qu 3 192 wj wi ab (Ent.refl ?_));simp
 refine aE eok (λi:Nat=>i<=d.list.length) (λi=>⟨31,0,[(16,.v (.int .i64 i)),(15,.v (.int .i64 d.list.length)),(14,.ro (d.list.map Entry.row)),(3,.ro ((pb d.list (List.replicate d.text.length 0) i).map aN)),(1,.p 16 b1 0)],
  (16,.vars b1 44 [.v (.string d.name),.v (.int .i64 d.fr),.ro (d.text.map aN),.ro (d.list.map Entry.row),.ro (d.seen.map Seen.row)])::phs o⟩) (λi=>d.list.length-i) 0 ab (by simp[pb]) (λi hi=>Ent.refl ?_)
 by_cases h:i<d.list.length
 ·obtain⟨x,hx⟩:∃x,d.list[i]=x:=⟨_,rfl⟩
  have hxo:=hent _ (ao h);rw[hx]at hxo;have hs:=Je (w:=List.replicate d.text.length 0) h;rw[hx]at hs
  have hn:nL aM x.o<=2^40:=by
   have a:=nd hxo.2.2.1.1.1;have b:=hxo.2.2.1.1.2;omega
  have hw:=hwl i;generalize pb d.list (List.replicate d.text.length 0) i=W at hs hw⊢;simp[h,hx,Entry.row];intro b5;refine ae.ro (Hz x.o W x.client hn aa) ab ?_;exact QG
 ·have he:i=d.list.length:=by omega
  subst he;simp
theorem AR(d:Doc)(hl:cO d<=2^30):jm Tryz.prog 199 [.agg d.row] (λrr=>rr=.one (.c (.s ((er d).map aN)) 1)):=by
 refine jm.intro aq Tryz.func199 ai rfl rfl rfl (aj rfl) (λw0 base o=>?_);simp[Doc.row];intro b1;refine ae.ro (jh d aa) aS ?_;by_cases ok:cf d
 rotate_left
 ·exact Rg
 have e:er d=pb d.list (List.replicate d.text.length 0) d.list.length:=by unfold er;rw[al ok]
 rw[e];have ht:=ok.2.2.1.1;have hlist:=ok.2.2.2.1;have hent:=ok.2.2.2.2.1;have hwl:=λi=>xd (l:=d.list) (w:=List.replicate d.text.length 0) JG i
 simp[ok];refine⟨aa,λb3=>?_⟩;refine pX (qu 3 192 wj wi ab (Ent.refl ?_));simp
 refine aE eok (λi:Nat=>i<=d.list.length) (λi=>⟨31,0,[(16,.v (.int .i64 i)),(15,.v (.int .i64 d.list.length)),(14,.ro (d.list.map Entry.row)),(3,.ro ((pb d.list (List.replicate d.text.length 0) i).map aN)),(1,.p 16 b1 0)],
  (16,.vars b1 44 [.v (.string d.name),.v (.int .i64 d.fr),.ro (d.text.map aN),.ro (d.list.map Entry.row),.ro (d.seen.map Seen.row)])::phs o⟩) (λi=>d.list.length-i) 0 ab (by simp[pb]) (λi hi=>Ent.refl ?_)
 by_cases h:i<d.list.length
 ·obtain⟨x,hx⟩:∃x,d.list[i]=x:=⟨_,rfl⟩
  have hxo:=hent _ (ao h);rw[hx]at hxo;have hs:=Je (w:=List.replicate d.text.length 0) h;rw[hx]at hs
  have hn:nL aM x.o<=2^40:=by
   have a:=nd hxo.2.2.1.1.1;have b:=hxo.2.2.1.1.2;omega
  have hw:=hwl i;generalize pb d.list (List.replicate d.text.length 0) i=W at hs hw⊢;simp[h,hx,Entry.row];intro b5;refine ae.ro (G0 x.o W x.client hn aa) ab ?_;exact QG
 ·have he:i=d.list.length:=by omega
  subst he;simp
theorem Ent.weak{E:Env}{st st':ASt}{S:ASt->Prop}(hw:GP st st')(h:Ent E st' S):Ent E st S:=λa w hR=>h a w (hw.rep hR)
def oJ(r:Int×Int):List CD:=[.s [aN r.1,aN r.2]]
def p6(L:List (Int×Int))(x:Int):List (Int×Int):=
 match L.getLast? with
 |some r=>if r.1=x then L.dropLast++[(x,r.2+1)]else L++[(x,1)]
 |none=>[(x,1)]
def qz(w:List Int):List (Int×Int):=w.foldl p6 []
theorem u7{w:List Int}{i:Nat}(h:i<w.length):qz (w.take (i+1))=p6 (qz (w.take i)) w[i]:=by
 unfold qz;exact wA
theorem zB{w:List Int}:∀(i:Nat) (h:i<w.length),∃L n,qz (w.take (i+1))=L++[(w[i],n)]/\1<=n/\n<=(i:Int)+1/\L.length<=i
 |0,h=>⟨[],1,by rw[u7 h];simp[qz,p6],aa,aa,ab⟩
 | i + 1, h => by
   obtain⟨L,n,h1,h2,h3,h4⟩:=zB (w:=w) i aa;rw[u7 h,h1];unfold p6;by_cases c:w[i]=w[i+1]
   ·exact⟨L,n+1,by simp[c],aa,aa,aa⟩
   ·exact⟨L++[(w[i],n)],1,by simp[c],aa,aa,aI⟩
theorem Ix{L:List (Int×Int)}{y n x:Int}:p6 (L++[(y,n)]) x=if y=x then L++[(x,n+1)]else L++[(y,n)]++[(x,1)]:=by
 unfold p6;simp
theorem wK{L:List (Int×Int)}{row:List CD}{d:CD}:pE (L.map oJ++[row]) L.length 0 d=L.map oJ++[row.set 0 d]:=by
 unfold pE
 apply qy
 intro j;rw[iT];by_cases c:j<L.length
 ·rw[cq (by simpa using c)]
  have:¬L.length=j:=aa;simp[this,cq,c]
 ·by_cases c2:j=L.length
  ·subst c2
   simp
  ·rw[Ej aI,Ej aI]
   simp
theorem Gl{E:Env}{u:Value}{n:Nat}{rows:List (List CD)}{K:AV->Prop}(h:Rd E.w0 false E.base.F u (.s rows))(k:K (.ro rows)):aCv E (.cv u n) K:=⟨rows,h,k⟩
theorem Pv(w:List Int)(hl:w.length<=2^40):ar Tryz.prog 135 [.c (.s (w.map aN))] (.one (.c (.s ((qz w).map oJ)) 1)):=by
 refine ar.introL aq Tryz.func135 ai rfl rfl rfl (aj rfl) rfl (λw0 base us hrd=>?_);simp at hrd;simp;refine aE eok (λx:Nat×Hd=>x.1<=w.length) (λx=>⟨41,0,[(8,.v (.int .i64 x.1)),(7,.v (.int .i64 w.length)),(6,.cv (us 0 0) w.length),(0,.cv (us 0 0) w.length),(3,.sl 5000 x.2 1 0 (qz (w.take x.1)).length)],[(5000,.rows x.2 1 ((qz (w.take x.1)).map oJ) true)]⟩) (λx=>w.length-x.1) (0,none) ab (by simp[qz]) (λx hi=>?_);obtain⟨i,H⟩:=x;simp only at hi⊢;by_cases h:i<w.length
 rotate_left
 ·exact RI
 have e:Go.IntKind.i64.wrap ((i:Int)+1)=((i+1:Nat):Int):=aZ aa;by_cases hz:i=0
 ·exact Uv
 obtain⟨m,hm⟩:∃m,i=m+1:=⟨i-1,aa⟩;have e1:Go.IntKind.i64.wrap ((i:Int)-1)=(m:Int):=(ah _ aa).trans aa;have hmw:m<w.length:=aa;have hp:0<i:=aa;obtain⟨L,n,h1,h2,h3,h4⟩:=zB (w:=w) m aa;have hs:=u7 h;rw[<-hm]at h1;rw[h1,Ix]at hs;rw[h1];by_cases c:w[m]=w[i]
 ·rw[al c]at hs
  refine Ent.open (λ_ h=>h) (k:=5000) (i:=L.length) (j:=0) (k':=60000) (sz':=1) (sz:=1) (H:=H) (rows:=(L++[(w[m],n)]).map oJ) (srows:=[aN w[m],aN n]) (row:=oJ (w[m],n)) ab ab (by simp[oJ]) ab ag (by simp[aN]) C9 (λG=>Ent.refl ?_);rw[eY,Mh,wK];have hrs:∀d,(oJ (w[m],n)).set 0 d=[d]:=λ_=>rfl
  rw[hrs];simp[h];refine Gl hrd ?_;simp[h,hp,e1];refine Gl hrd ?_;have eL:Go.IntKind.i64.wrap (L.length:Int)=(L.length:Int):=gb aa;simp[hmw,c,eL];have en:Go.IntKind.i64.wrap (n+1)=n+1:=ah _ aa;refine⟨aa,Ent.weak (st':=⟨41,0,[(8,.v (.int .i64 (i+1:Nat))),(7,.v (.int .i64 w.length)),(6,.cv (us 0 0) w.length),(0,.cv (us 0 0) w.length),(3,.sl 5000 H 1 0 (L.length+1))],[(60000,.rows G 1 [aN w[i],aN (n+1)] true),(5000,.rows H 1 (L.map oJ++[[.h 60000 G 1 2]]) true)]⟩) (by simp[e,en,aN]) ?_⟩
  refine jI (k:=5000) (i:=L.length) (j:=0) (k':=60000) (sz':=1) (sz:=1) (H:=H) (H':=G) (rows:=L.map oJ++[[.h 60000 G 1 2]]) (srows:=[aN w[i],aN (n+1)]) (row:=[.h 60000 G 1 2]) ab ab ab ab ag C9 (Ent.refl ⟨i+1,aa,aa,H,?_⟩);rw[hs,wK];simp[oJ]
 ·exact Ur
theorem OC(w:List Int)(hl:w.length<=2^40):ar Tryz.prog 198 [.c (.s (w.map aN))] (.one (.c (.s ((qz w).map oJ)) 1)):=by
 refine ar.introL aq Tryz.func198 ai rfl rfl rfl (aj rfl) rfl (λw0 base us hrd=>?_);simp at hrd;simp;intro bb;refine aE eok (λx:Nat×Hd=>x.1<=w.length) (λx=>⟨42,0,[(9,.v (.int .i64 x.1)),(8,.v (.int .i64 w.length)),(7,.cv (us 0 0) w.length),(0,.cv (us 0 0) w.length),(3,.sl 96 x.2 1 0 (qz (w.take x.1)).length)],[(96,.rows x.2 1 ((qz (w.take x.1)).map oJ) true)]⟩) (λx=>w.length-x.1) (0,some (bb,0,0)) ab (by simp[qz]) (λx hi=>?_);obtain⟨i,H⟩:=x;simp only at hi⊢;by_cases h:i<w.length
 rotate_left
 ·exact RI
 have e:Go.IntKind.i64.wrap ((i:Int)+1)=((i+1:Nat):Int):=aZ aa;by_cases hz:i=0
 ·exact Uv
 obtain⟨m,hm⟩:∃m,i=m+1:=⟨i-1,aa⟩;have e1:Go.IntKind.i64.wrap ((i:Int)-1)=(m:Int):=(ah _ aa).trans aa;have hmw:m<w.length:=aa;have hp:0<i:=aa;obtain⟨L,n,h1,h2,h3,h4⟩:=zB (w:=w) m aa;have hs:=u7 h;rw[<-hm]at h1;rw[h1,Ix]at hs;rw[h1];by_cases c:w[m]=w[i]
 ·rw[al c]at hs
  refine Ent.open (λ_ h=>h) (k:=96) (i:=L.length) (j:=0) (k':=60000) (sz':=1) (sz:=1) (H:=H) (rows:=(L++[(w[m],n)]).map oJ) (srows:=[aN w[m],aN n]) (row:=oJ (w[m],n)) ab ab (by simp[oJ]) ab ag (by simp[aN]) C9 (λG=>Ent.refl ?_);rw[eY,Mh,wK];have hrs:∀d,(oJ (w[m],n)).set 0 d=[d]:=λ_=>rfl
  rw[hrs];simp[h];refine Gl hrd ?_;simp[h,hp,e1];refine Gl hrd ?_;have eL:Go.IntKind.i64.wrap (L.length:Int)=(L.length:Int):=gb aa;simp[hmw,c,eL];have en:Go.IntKind.i64.wrap (n+1)=n+1:=ah _ aa;refine⟨aa,Ent.weak (st':=⟨42,0,[(9,.v (.int .i64 (i+1:Nat))),(8,.v (.int .i64 w.length)),(7,.cv (us 0 0) w.length),(0,.cv (us 0 0) w.length),(3,.sl 96 H 1 0 (L.length+1))],[(60000,.rows G 1 [aN w[i],aN (n+1)] true),(96,.rows H 1 (L.map oJ++[[.h 60000 G 1 2]]) true)]⟩) (by simp[e,en,aN]) ?_⟩
  refine jI (k:=96) (i:=L.length) (j:=0) (k':=60000) (sz':=1) (sz:=1) (H:=H) (H':=G) (rows:=L.map oJ++[[.h 60000 G 1 2]]) (srows:=[aN w[i],aN (n+1)]) (row:=[.h 60000 G 1 2]) ab ab ab ab ag C9 (Ent.refl ⟨i+1,aa,aa,H,?_⟩);rw[hs,wK];simp[oJ]
 ·exact Ur
def qB(n:Int):List Int:=
 if n<128 then [n]else if n<2048 then [192+n / 64,128+n % 64]else if n<65536 then [224+n / 4096,128+n / 64 % 64,128+n % 64]else [240+n / 262144,128+n / 4096 % 64,128+n / 64 % 64,128+n % 64]
def u8R(x:Int):List CD:=[.v (.int .u8 x)]
def kE(l:List Int):List Int:=l.flatMap qB
def toB(l:List Int):List UInt8:=l.map λx=>UInt8.ofNat x.toNat
open Classical in
noncomputable def n7(l:List Int):ByteArray:=if dK l then⟨(toB (kE l)).toArray⟩else⟨#[]⟩
theorem Gy{l:List Int}{i:Nat}(h:i<l.length):kE (l.take (i+1))=kE (l.take i)++qB l[i]:=by
 unfold kE;rw[<-bY h,List.flatMap_append];simp
theorem adY{n:Int}(h:mX n):∀x∈qB n,0<=x/\x<256:=by
 obtain⟨⟨h0,h1⟩,-⟩:=h;intro x hx;unfold qB at hx
 split at hx
 ·simp at hx;omega
 ·split at hx
  ·simp at hx;omega
  ·split at hx
   ·simp at hx;omega
   ·simp at hx;omega
theorem abt(n:Int):(qB n).length<=4:=by
 unfold qB
 split
 ·simp
 ·split
  ·simp
  ·split<;>simp
theorem X9{l:List Int}(h:dK l):∀x∈kE l,0<=x/\x<256:=by
 intro x hx;obtain⟨n,hn,hx⟩:=List.mem_flatMap.1 hx;exact adY (h n hn) x hx
theorem ub:∀l:List Int,(kE l).length<=4*l.length
 | []=>by simp[kE]
 | n :: l => by
   have h1:=ub l;have h2:=abt n;simp only[kE,List.flatMap_cons,dU,bH]at h1⊢;omega
theorem YS{l:List Int}(h:∀x∈l,0<=x/\x<256):l.map u8R=(toB l).map fR:=by
 unfold toB;rw[CM]
 apply fE
 intro x hx;have:=h x hx;simp only[Function.comp,u8R,fR];have e:((UInt8.ofNat x.toNat).toNat:Int)=x:=by rw[UInt8.toNat_ofNat'];omega
 rw[e]
theorem Yg:∀a:Fin 256,Go.bits .and .u8 (a.val:Int) 63=((a.val % 64:Nat):Int):=sL
theorem WV:∀a:Fin 64,Go.bits .or .u8 128 (a.val:Int)=128+(a.val:Int):=sL
theorem WU:∀a:Fin 32,Go.bits .or .u8 192 (a.val:Int)=192+(a.val:Int):=sL
theorem WT:∀a:Fin 16,Go.bits .or .u8 224 (a.val:Int)=224+(a.val:Int):=sL
theorem WS:∀a:Fin 8,Go.bits .or .u8 240 (a.val:Int)=240+(a.val:Int):=sL
theorem C5(x:Int):Go.IntKind.u8.wrap x=x % 256:=by
 simp[IntKind.wrap,IntKind.bits,IntKind.signed]
theorem Wb(x:Int):Go.bits .and .u8 (Go.IntKind.u8.wrap x) 63=x % 64:=by
 rw[C5];have h:=Yg ⟨(x % 256).toNat,aa⟩;simp only at h;have e:(((x % 256).toNat:Nat):Int)=x % 256:=aa;rw[e]at h;rw[h];omega
theorem Vv(x:Int):Go.bits .or .u8 128 (x % 64)=128+x % 64:=by
 have h:=WV ⟨(x % 64).toNat,aa⟩;simp only at h;have e:(((x % 64).toNat:Nat):Int)=x % 64:=aa
 rwa[e]at h
theorem ajZ{x:Int}(h0:0<=x)(h1:x<32):Go.bits .or .u8 192 (Go.IntKind.u8.wrap x)=192+x:=by
 have h:=WU ⟨x.toNat,aa⟩;exact Kf
theorem ajY{x:Int}(h0:0<=x)(h1:x<16):Go.bits .or .u8 224 (Go.IntKind.u8.wrap x)=224+x:=by
 have h:=WT ⟨x.toNat,aa⟩;exact Kf
theorem ajX{x:Int}(h0:0<=x)(h1:x<8):Go.bits .or .u8 240 (Go.IntKind.u8.wrap x)=240+x:=by
 have h:=WS ⟨x.toNat,aa⟩;exact Kf
theorem Nq(l:List Int)(hl:l.length<=2^40):ar Tryz.prog 141 [.c (.s (l.map aN))] (.one (.c (.v (.string (n7 l))) 1)):=by
 refine pci aq Tryz.func141 (λw0 base=>?_);simp;refine ae.pure (kB l hl) ab ?_;by_cases ok:dK l
 rotate_left
 ·exact Q9
 have e:n7 l=⟨(toB (kE l)).toArray⟩:=by unfold n7;rw[al ok]
 rw[e]
 clear e
 simp[ok];refine aE eok (λx:Nat×Hd=>x.1<=l.length) (λx=>⟨22,0,[(11,.v (.int .i64 x.1)),(10,.v (.int .i64 l.length)),(9,.ro (l.map aN)),(3,.sl 5000 x.2 1 0 (kE (l.take x.1)).length)],[(5000,.rows x.2 1 ((kE (l.take x.1)).map u8R) true)]⟩) (λx=>l.length-x.1) (0,none) ab (by simp[kE]) (λx hi=>Ent.refl ?_);obtain⟨i,H⟩:=x;simp only at hi⊢;by_cases h:i<l.length
 rotate_left
 ·exact Q8
 have e:Go.IntKind.i64.wrap ((i:Int)+1)=((i+1:Nat):Int):=aZ aa;have hs:=Gy h;have hln:=ub (l.take i);rw[gk]at hln;obtain⟨⟨n0,n1⟩,n2⟩:=ok _ (ao h);generalize kE (l.take i)=L at hs hln;obtain⟨n,hn⟩:∃n,l[i]=n:=⟨_,rfl⟩;rw[hn]at hs n0 n1 n2;have e1:Go.IntKind.i32.wrap n=n:=Qy;have e2:Go.IntKind.u32.wrap n=n:=Qy;have e3:n<256->Go.IntKind.u8.wrap n=n:=λh=>by rw[C5];omega
 simp[h,hn,e1];refine inl aq Tryz.func251 30000 (λw1 F=>?_);by_cases c1:n<128
 ·have c1':n<=127:=by omega
  have hen:qB n=[n]:=by unfold qB;rw[al c1]
  rw[hen]at hs;simp[e2,c1',e3 aa];exact zh
 have c1':¬n<=127:=aa;simp[e2,c1'];refine inl aq Tryz.func337 40000 (λw2 F2=>?_);by_cases c2:n<2048
 ·have c2':n<=2047:=by omega
  have hen:qB n=[192+n / 64,128+n % 64]:=by unfold qB;rw[ak c1,al c2]
  rw[hen]at hs;have o1:=ajZ (x:=n / 64) aa aa;simp[e2,c2',Wb,Vv,o1];refine⟨ag,λb=>⟨aa,λH2=>Ent.refl ⟨i+1,aa,aa,H2,?_⟩⟩⟩;rw[hs];simp[e,u8R]
 have c2':¬n<=2047:=aa;by_cases c3:n<65536
 ·have hen:qB n=[224+n / 4096,128+n / 64 % 64,128+n % 64]:=by unfold qB;rw[ak c1,ak c2,al c3]
  rw[hen]at hs;have o1:=ajY (x:=n / 4096) aa aa;by_cases c4:n<55296
  ·skip
   simp[e2,c2',c4,Wb,Vv,o1];exact Tk
  ·have c5:57343<n:=by omega
   have c6:n<=65535:=aa;simp[e2,c2',c4,c5,c6,Wb,Vv,o1];exact Tk
 ·have hen:qB n=[240+n / 262144,128+n / 4096 % 64,128+n / 64 % 64,128+n % 64]:=by unfold qB;rw[ak c1,ak c2,ak c3]
  rw[hen]at hs;have o1:=ajX (x:=n / 262144) aa aa;have c4:¬n<55296:=aa;have c5:57343<n:=aa;have c6:¬n<=65535:=aa;have c7:65535<n:=aa;simp[e2,c2',c4,c5,c6,c7,n1,Wb,Vv,o1];refine⟨ag,ag,ag,λb=>⟨aa,λH2=>Ent.refl ⟨i+1,aa,aa,H2,?_⟩⟩⟩;rw[hs];simp[e,u8R]
theorem MC(l:List Int)(hl:l.length<=2^40):ar Tryz.prog 197 [.c (.s (l.map aN))] (.one (.c (.v (.string (n7 l))) 1)):=by
 refine pci aq Tryz.func197 (λw0 base=>?_);simp;intro bb;refine ae.pure (lW l hl) ab ?_;by_cases ok:dK l
 rotate_left
 ·exact Q9
 have e:n7 l=⟨(toB (kE l)).toArray⟩:=by unfold n7;rw[al ok]
 rw[e]
 clear e
 simp[ok];refine aE eok (λx:Nat×Hd=>x.1<=l.length) (λx=>⟨22,0,[(12,.v (.int .i64 x.1)),(11,.v (.int .i64 l.length)),(10,.ro (l.map aN)),(3,.sl 96 x.2 1 0 (kE (l.take x.1)).length)],[(96,.rows x.2 1 ((kE (l.take x.1)).map u8R) true)]⟩) (λx=>l.length-x.1) (0,some (bb,0,0)) ab (by simp[kE]) (λx hi=>Ent.refl ?_);obtain⟨i,H⟩:=x;simp only at hi⊢;by_cases h:i<l.length
 rotate_left
 ·exact Q8
 have e:Go.IntKind.i64.wrap ((i:Int)+1)=((i+1:Nat):Int):=aZ aa;have hs:=Gy h;have hln:=ub (l.take i);rw[gk]at hln;obtain⟨⟨n0,n1⟩,n2⟩:=ok _ (ao h);generalize kE (l.take i)=L at hs hln;obtain⟨n,hn⟩:∃n,l[i]=n:=⟨_,rfl⟩;rw[hn]at hs n0 n1 n2;have e3:∀x:Int,0<=x->x<256->Go.IntKind.u8.wrap x=x:=λx h0 h=>by rw[C5];omega
 have w6:∀x:Int,0<=x->x<2^40->Go.IntKind.i64.wrap x=x:=λx h0 h=>ah _ aa
 have q1:Go.IntKind.i64.wrap (n.tdiv 64)=n / 64:=by rw[nu n0];exact w6 _ aa aa
 have q2:Go.IntKind.i64.wrap (n.tdiv 4096)=n / 4096:=by rw[nu n0];exact w6 _ aa aa
 have q3:Go.IntKind.i64.wrap (n.tdiv 262144)=n / 262144:=by rw[nu n0];exact w6 _ aa aa
 have m0:n.tmod 64=n % 64:=nt n0;have m1:(n / 64).tmod 64=n / 64 % 64:=nt aa;have m2:(n / 4096).tmod 64=n / 4096 % 64:=nt aa;have v1:∀x:Int,0<=x->x<256->Go.IntKind.u8.wrap (Go.IntKind.i64.wrap x)=x:=λx h0 h=>by rw[w6 x h0 aa,e3 x h0 h]
 have p0:=v1 (128+n % 64) aa aa;have p1:=v1 (128+n / 64 % 64) aa aa;have p2:=v1 (128+n / 4096 % 64) aa aa;simp[h,hn];refine inl aq Tryz.func294 30000 (λw1 F=>?_);by_cases c1:n<128
 ·have hen:qB n=[n]:=by unfold qB;rw[al c1]
  rw[hen]at hs;simp[c1,e3 n n0 aa];exact zh
 by_cases c2:n<2048
 ·have hen:qB n=[192+n / 64,128+n % 64]:=by unfold qB;rw[ak c1,al c2]
  rw[hen]at hs;simp[c1,c2,q1,m0,p0,v1 (192+n / 64) aa aa];exact zh
 by_cases c3:n<65536
 ·have hen:qB n=[224+n / 4096,128+n / 64 % 64,128+n % 64]:=by unfold qB;rw[ak c1,ak c2,al c3]
  rw[hen]at hs;simp[c1,c2,c3,q1,q2,m0,m1,p0,p1,v1 (224+n / 4096) aa aa];exact zh
 ·have hen:qB n=[240+n / 262144,128+n / 4096 % 64,128+n / 64 % 64,128+n % 64]:=by unfold qB;rw[ak c1,ak c2,ak c3]
  rw[hen]at hs;simp[c1,c2,c3,q1,q2,q3,m0,m1,m2,p0,p1,p2,v1 (240+n / 262144) aa aa];exact zh
def nw(n:Int):Int:=if n<32\/n=127 then 63 else n
open Classical in
noncomputable def mY(t:List Int):ByteArray:=if dK t then n7 (t.map nw)else⟨#[]⟩
theorem N2(l:List Int):(n7 l).size<=4*l.length:=by
 unfold n7
 split
 ·have:=ub l
  simpa[ByteArray.size,toB]using this
 ·exact dz _
theorem tc(t:List Int):(mY t).size<=4*t.length:=by
 unfold mY
 split
 ·have:=N2 (t.map nw)
  exact lr
 ·exact dz _
def o6(t:List Int)(i:Nat):List Int:=(t.take i).map nw++t.drop i
theorem ZZ{t:List Int}{i:Nat}(h:i<t.length):(o6 t i).set i (nw t[i])=o6 t (i+1):=by
 unfold o6;have hlen:((t.take i).map nw).length=i:=aI;rw[mN _ _ aa,hlen,qv,bk h,pe,<-bY h,eY,cU];rfl
theorem Z0{t:List Int}{i:Nat}(h:i<t.length):(o6 t i)[i]? = some t[i]:=by
 unfold o6;have hlen:((t.take i).map nw).length=i:=aI;rw[br aa,hlen,qv,bk h];rfl
theorem FK(t:List Int)(hl:t.length<=2^40):ar Tryz.prog 38 [.c (.s (t.map aN))] (.one (.c (.v (.string (mY t))) 1)):=by
 refine pci aq Tryz.func38 (λw0 base=>?_);simp;refine ae.pure (kB t hl) ab ?_;by_cases ok:dK t
 rotate_left
 ·have e:mY t=⟨#[]⟩:=by unfold mY;rw[ak ok]
  simp[ok,e]
 have e:mY t=n7 (t.map nw):=by unfold mY;rw[al ok]
 rw[e]
 clear e
 simp[ok];refine ae.pure (mz t hl) ab ?_;simp;intro H0;refine aE eok (λx:Nat×Hd=>x.1<=t.length) (λx=>⟨30,0,[(13,.v (.int .i64 x.1)),(12,.v (.int .i64 t.length)),(11,.sl 160 x.2 1 0 t.length),(3,.sl 160 x.2 1 0 t.length)],[(160,.rows x.2 1 ((o6 t x.1).map aN) true)]⟩) (λx=>t.length-x.1) (0,H0) ab (by simp[o6]) (λx hi=>Ent.refl ?_);obtain⟨i,H⟩:=x;simp only at hi⊢;by_cases h:i<t.length
 rotate_left
 ·have he:i=t.length:=by omega
  subst he;have e9:o6 t t.length=t.map nw:=by unfold o6;simp
  simp[e9];refine ae.pure (Nq (t.map nw) sU) ab ?_;simp
 exact U8
theorem EK(t:List Int)(hl:t.length<=2^40):ar Tryz.prog 90 [.c (.s (t.map aN))] (.one (.c (.v (.string (mY t))) 1)):=by
 refine pci aq Tryz.func90 (λw0 base=>?_);simp;refine ae.pure (lW t hl) ab ?_;by_cases ok:dK t
 rotate_left
 ·have e:mY t=⟨#[]⟩:=by unfold mY;rw[ak ok]
  simp[ok,e]
 have e:mY t=n7 (t.map nw):=by unfold mY;rw[al ok]
 rw[e]
 clear e
 simp[ok];intro bb;refine⟨aa,λH0=>?_⟩;refine aE eok (λx:Nat×Hd=>x.1<=t.length) (λx=>⟨31,0,[(14,.v (.int .i64 x.1)),(13,.v (.int .i64 t.length)),(12,.sl 144 x.2 1 0 t.length),(3,.sl 144 x.2 1 0 t.length)],[(144,.rows x.2 1 ((o6 t x.1).map aN) true)]⟩) (λx=>t.length-x.1) (0,H0) ab (by simp[o6]) (λx hi=>Ent.refl ?_);obtain⟨i,H⟩:=x;simp only at hi⊢;by_cases h:i<t.length
 rotate_left
 ·have he:i=t.length:=by omega
  subst he;have e9:o6 t t.length=t.map nw:=by unfold o6;simp
  simp[e9];refine ae.pure (MC (t.map nw) sU) ab ?_;simp
 exact U8
def cF(w:List UInt8):Int:=if w=iW 1 then 1 else if w=iW 2 then 2 else if w=iW 3 then 3 else if w=iW 4 then 4 else if w=iW 5 then 5 else if w=iW 6 then 6 else if w=iW 7 then 7 else if w=iW 8 then 8 else 0
theorem rj{k:Int}(h:1<=k/\k<=8):cF (iW k)=k:=by
 have hc:k=1\/k=2\/k=3\/k=4\/k=5\/k=6\/k=7\/k=8:=aa;rcases hc with rfl|rfl|rfl|rfl|rfl|rfl|rfl|rfl<;>decide
theorem X4(k:Int):(32:UInt8)∉iW k:=by
 unfold iW
 (repeat' split)<;>decide
theorem MD(l:List Int):(32:UInt8)∉dq l:=by
 unfold dq
 split
 ·split
  ·decide
  ·exact ME yX ag l
 ·exact rU
theorem W5{s:ByteArray}(h:mn s):(32:UInt8)∉s.data.toList:=λhm=>by
 obtain⟨i,hi,he⟩:=fF hm;have hs:i<s.size:=by have:=cP s.data.toList;rw[oA]at this;omega
 have h2:=h.2 i hs;have h3:s[i]=s.data.toList[i]:=by simp[Om]
 rw[h3,he]at h2;exact absurd h2.1 ag
theorem mg{c:Call}(h:cOk c):bf 32 (Lib.join (cJ c) [32])=cJ c:=by
 refine oF 32 _ (by simp[cJ]) (λw hw=>?_);unfold cJ at hw;simp only[aR,aO]at hw;rcases hw with rfl|hw|hw|hw|hw|hw|hw
 ·exact X4 _
 ·split at hw
  ·rename_i hd
   rw[gf.1 hw];exact W5 (h.2.2.2.2.2 hd)
  ·exact DB
 all_goals
  split at hw
  ·rw[gf.1 hw]
   first|exact ag3 _|exact IK _|exact MD _
  ·exact DB
open Classical in
noncomputable def clS(W:List (List UInt8)):Call:=⟨cF (W.getD 0 []),if ca (cF (W.getD 0 []))then bs (W.getD 1 [])else bs [],
 if cF (W.getD 0 [])=2 then(bc (W.getD 2 [])).1 else if cF (W.getD 0 [])=6\/cF (W.getD 0 [])=7 then(bc (W.getD 1 [])).1 else 0,
 if cF (W.getD 0 [])=2 then(bc (W.getD 3 [])).1 else 0,
 if cF (W.getD 0 [])=2 then(bc (W.getD 4 [])).1 else if cF (W.getD 0 [])=3\/cF (W.getD 0 [])=5\/cF (W.getD 0 [])=6 then(bc (W.getD 2 [])).1 else 0,
 if cF (W.getD 0 [])=2 then(dM ((W.getD 5 []).map iK)).1 else [],if cF (W.getD 0 [])=1 then(dI (W.getD 2 [])).1 else []⟩
theorem Bp{c:Call}(h:cOk c)(hn:cr c.o):clS (cJ c)=c:=by
 obtain⟨h1,h2,h3,h4,h5,h6⟩:=h;have e0:=rj h1.1;obtain⟨k,doc,client,seq,n,o,text⟩:=c;obtain⟨hk,hd,hp,ht,a1,a2,a3,a4,a5⟩:=h1;unfold KS at h3 h4 h5;simp only at hk hd hp ht a1 a2 a3 a4 a5 h2 h3 h4 h5 h6 hn e0;have hc:k=1\/k=2\/k=3\/k=4\/k=5\/k=6\/k=7\/k=8:=aa;have z:bs []=⟨#[]⟩:=rfl;rcases hc with rfl|rfl|rfl|rfl|rfl|rfl|rfl|rfl
 all_goals
  simp[ca]at a1 a2 a3 a4 a5;simp[clS,cJ,e0,ca,lQ,iu,oA,dQ h3,dQ h4,dQ h5,Ij,nJ hn,xy ht.2,a1,a2,a3,a4,a5,z]
open Classical in
noncomputable def clI(W:List (List UInt8)):Call:=⟨cF (W.getD 0 []),if ca (cF (W.getD 0 []))/\1<W.length then bs (W.getD 1 [])else bs [],
 if cF (W.getD 0 [])=2 then aL W 2 else if cF (W.getD 0 [])=6\/cF (W.getD 0 [])=7 then aL W 1 else 0,
 if cF (W.getD 0 [])=2 then aL W 3 else 0,
 if cF (W.getD 0 [])=2 then aL W 4 else if cF (W.getD 0 [])=3\/cF (W.getD 0 [])=5\/cF (W.getD 0 [])=6 then aL W 2 else 0,
 if cF (W.getD 0 [])=2/\W.length=6 then(dM (jo (W.getD 5 []))).1 else [],if cF (W.getD 0 [])=1/\W.length=3 then(dI (W.getD 2 [])).1 else []⟩
theorem X5{c:Call}(h:cOk c)(hn:cr c.o):clI (cJ c)=c:=by
 obtain⟨h1,h2,h3,h4,h5,h6⟩:=h;have e0:=rj h1.1;obtain⟨k,doc,client,seq,n,o,text⟩:=c;obtain⟨hk,hd,hp,ht,a1,a2,a3,a4,a5⟩:=h1;unfold KS at h3 h4 h5;simp only at hk hd hp ht a1 a2 a3 a4 a5 h2 h3 h4 h5 h6 hn e0;have hc:k=1\/k=2\/k=3\/k=4\/k=5\/k=6\/k=7\/k=8:=aa;have z:bs []=⟨#[]⟩:=rfl;rcases hc with rfl|rfl|rfl|rfl|rfl|rfl|rfl|rfl
 all_goals
  simp[ca]at a1 a2 a3 a4 a5;simp[clI,aL,cJ,e0,ca,lQ,iu,oA,dQ h3,dQ h4,dQ h5,Em,nJ hn,xy ht.2,a1,a2,a3,a4,a5,z]
def Call.none:Call:=⟨0,⟨#[]⟩,0,0,0,[],[]⟩
theorem oD{c:Call}(h:cOk c):aW c=Lib.join (cJ c) [32]:=JH
open Classical in
noncomputable def da(s:List UInt8):Call×Bool:=if h:∃c,(cOk c/\cr c.o)/\aW c=s then(h.choose,true)else(Call.none,false)
theorem LM{a b:Call}(ha:cOk a/\cr a.o)(hb:cOk b/\cr b.o)(h:aW a=aW b):a=b:=by
 rw[<-Bp ha.1 ha.2,<-Bp hb.1 hb.2,<-mg ha.1,<-mg hb.1,<-oD ha.1,<-oD hb.1,h]
theorem Mt{c:Call}(h:cOk c/\cr c.o):da (aW c)=(c,true):=by
 unfold da;have hx:∃c',(cOk c'/\cr c'.o)/\aW c'=aW c:=⟨c,h,rfl⟩;rw[dif_pos hx,LM hx.choose_spec.1 h hx.choose_spec.2]
theorem Mu{s:List UInt8}(h:∀c,cOk c/\cr c.o->aW c≠s):da s=(Call.none,false):=by
 unfold da;rw[On]
 rintro⟨c,h1,h2⟩
 exact h c h1 h2
theorem uP{s:List UInt8}{f:List (List UInt8)->Call}(hf:∀c,cOk c->cr c.o->f (cJ c)=c)(hn:cr (f (bf 32 s)).o) :
 (aW (f (bf 32 s))≠[]/\aW (f (bf 32 s))=s->da s=(f (bf 32 s),true))/\(¬(aW (f (bf 32 s))≠[]/\aW (f (bf 32 s))=s)->da s=(Call.none,false)):=by
 constructor
 ·rintro⟨h1,h2⟩
  have hok:cOk (f (bf 32 s)):=by
   by_cases h:cOk (f (bf 32 s))
   ·exact h
   ·exact absurd JI h1
  have:=Mt ⟨hok,hn⟩
  rwa[h2]at this
 ·intro h
  refine Mu λc hc h2=>h ?_
  have e1:f (bf 32 s)=c:=by rw[<-h2,oD hc.1,mg hc.1,hf c hc.1 hc.2]
  rw[e1];refine⟨λh0=>?_,h2⟩;rw[oD hc.1]at h0;have h9:=mg hc.1;rw[h0]at h9;have h8:=hc.1.1.1;have e:=rj h8;unfold cJ at h9;have h7:bf 32 []=[[]]:=rfl;rw[h7]at h9;have h6:=(List.cons.inj h9).1;rw[<-h6]at e;have:cF []=0:=ag;omega
attribute [local simp] kf ia cP gM gH fo
theorem Ji{w:List UInt8}{k:Int}(hk:1<=k/\k<=8):iW k=w↔cF w=k:=by
 constructor
 ·rintro rfl;exact rj hk
 ·intro h
  unfold cF at h;exact Ru
theorem Ap(w:List UInt8):0<=cF w/\cF w<=8:=by
 unfold cF
 (repeat' split)<;>omega
def LK(w:List UInt8)(i:Nat):Int:=if cF w<i then cF w else 0
theorem Jh{w:List UInt8}{i:Nat}:LK w (i+1)=if cF w=i then(i:Int)else LK w i:=by
 unfold LK;by_cases h:cF w=i
 ·rw[al aa,al h,h]
 ·rw[ak h]
  by_cases h2:cF w<i
  ·rw[al h2,al aa]
  ·rw[ak h2,ak aa]
theorem NW(w:List UInt8):LK w 1=0:=by
 unfold LK;have:=Ap w
 split
 ·omega
 ·rfl
theorem NX(w:List UInt8):LK w 9=cF w:=by
 unfold LK;have:=Ap w;rw[al aa]
theorem BH(s:List UInt8):(dI s).1.length<=s.length+1:=by
 unfold dI
 cases h:eh s with
 |none=>simp[th]
 | some l =>
   unfold eh at h;by_cases hs:s=[45]
   ·rw[al hs]at h
    cases h
    simp[th]
   ·rw[ak hs]at h
    have:=(sb h).1;have:=(dO 46 s).1;simp only[th];omega
theorem M5{c:Call}(hd:c.doc.size<=2^31)(hn:cr c.o)(ht:c.text.length<=2^31+1):jO c<=2^36:=by
 have:=nd hn.1.1.1;have:=hn.1.1.2;unfold jO;omega
theorem vu(s:List UInt8)(hl:s.length<=2^30):dt Tryz.prog LT 29 [.c (vs s)] (.tup [.agg (da s).1.res,.c (.v (.bool (da s).2)) 1]):=by
 refine dt.intro' aq LT.stay Tryz.func29 ai rfl rfl rfl (aj rfl) (λw0 base eok=>?_);simp;intro b2;refine aB eok (w5 s aa) ab ?_;simp;intro H b5
 have hnI:cr (clI (bf 32 s)).o:=by
  simp only[clI];exact DJ
 obtain⟨y1,y2⟩:=uP (s:=s) (f:=clI) (λe h hn=>X5 h hn) hnI;have hlen:=(dO 32 s).1;have hw:=(dO 32 s).2;have hne:=lz 32 s;generalize bf 32 s=W at hlen hw hne y1 y2 hnI⊢
 have hwg:∀i,(W.getD i []).length<=2^30:=λi=>by
  rw[bu]
  cases hx:W[i]? with
  |none=>simp
  |some x=>have:=hw x (aQ hx);simp;omega
 have hnE:jO (clI W)<=2^36:=M5 (by
  have:=hwg 1;simp only[clI]
  split
  ·rw[cP];omega
  ·rw[cP];simp) hnI (by
  have:=hwg 2;have:=BH (W.getD 2 []);simp only[clI]
  split
  ·omega
  ·simp)
 have hpos:0<W.length:=bJ.2 hne;obtain⟨w,hw0⟩:∃w,W[0]=w:=⟨_,rfl⟩;have hg0:W.getD 0 []=w:=by simp[List.getD,hpos,hw0]
 refine pX (qu 4 144 wj wi ab (Ent.refl ?_));simp
 refine aE eok (λi:Nat=>1<=i/\i<=9) (λi=>⟨101,0,[(6,.v (.int .i64 i)),(5,.p 80 b5 0),(4,.ro (W.map wR)),(3,.v (.bool false)),(2,.p 32 b2 0),(0,.v (.string (bs s)))],
  [(80,.vars b5 62 [.v (.int .i64 (LK w i)),.v (.string (bs [])),.v (.int .i64 0),.v (.int .i64 0),.v (.int .i64 0),.nil,.nil]),(32,.vars b2 62 [.v (.int .i64 0),.v (.string (bs [])),.v (.int .i64 0),.v (.int .i64 0),.v (.int .i64 0),.nil,.nil])]⟩) (λi=>9-i) 1 aa (by simp[NW]) (λi hi=>Ent.refl ?_)
 by_cases hlt:(i:Int)<=8
 ·have hnx:=Jh (w:=w) (i:=i)
  have hat:=Ji (w:=w) (k:=i) aa;simp[hlt];refine cg.quiet eok mix ai ?_;simp[hpos,hw0,wR];refine⟨_,_,(tN i).up,ab,?_⟩;exact QS
 have e:i=9:=aa;subst e;rw[NX];have hWl:W.length<=2^31:=aa;have hWw:∀w∈W,w.length<=2^31:=λw h=>Da
 simp;refine ae.pure (fV (cF w)) ab ?_;by_cases d:ca (cF w)
 ·have hc:cF w=1\/cF w=2\/cF w=3\/cF w=4\/cF w=5:=by unfold ca at d;omega
  by_cases l1:1<W.length
  ·have l1':(1:Int)<(W.length:Int):=by omega
   obtain⟨u,hu⟩:∃u,W[1]=u:=⟨_,rfl⟩;have hg1:W.getD 1 []=u:=by simp[List.getD,l1,hu]
   simp[d,l1',l1,hu,wR];rcases hc with k1|k2|k3|k4|k5
   ·by_cases l3:W.length=3
    ·have l3':(W.length:Int)=3:=by omega
     have h2:2<W.length:=aa;obtain⟨x,hx⟩:∃x,W[2]=x:=⟨_,rfl⟩;have hxl:=hw W[2] (ao h2);rw[hx]at hxl;have hg2:W.getD 2 []=x:=by simp[List.getD,h2,hx]
     simp[k1,l3',h2,hx,wR];refine aB eok (vr x aa) ab ?_;simp;intro H3;have hE:clI W=⟨1,bs u,0,0,0,[],(dI x).1⟩:=by unfold clI;rw[hg0];simp[ca,k1,l3,hx,hu];try omega
     rw[hE]at y1 y2 hnE;refine aB eok (cR ⟨1,bs u,0,0,0,[],(dI x).1⟩ hnE) di ?_;by_cases q1:aW ⟨1,bs u,0,0,0,[],(dI x).1⟩=[]
     ·exact e8
     ·by_cases q2:aW ⟨1,bs u,0,0,0,[],(dI x).1⟩=s
      ·exact iR
      ·exact iQ
    ·have l3':¬(W.length:Int)=3:=by omega
     simp[k1,l3'];have hE:clI W=⟨1,bs u,0,0,0,[],[]⟩:=by unfold clI;rw[hg0];simp[ca,k1,l3,l1,hu];try omega
     rw[hE]at y1 y2 hnE;refine aB eok (cR ⟨1,bs u,0,0,0,[],[]⟩ hnE) di ?_;by_cases q1:aW ⟨1,bs u,0,0,0,[],[]⟩=[]
     ·exact e8
     ·by_cases q2:aW ⟨1,bs u,0,0,0,[],[]⟩=s
      ·exact iR
      ·exact iQ
   ·simp[k2]
    refine aB eok (df W 2 aa hWl hWw) ab ?_;simp;refine aB eok (df W 3 aa hWl hWw) ab ?_;simp;refine aB eok (df W 4 aa hWl hWw) ab ?_;simp;by_cases l6:W.length=6
    ·have l6':(W.length:Int)=6:=by omega
     have h5:5<W.length:=aa;obtain⟨x,hx⟩:∃x,W[5]=x:=⟨_,rfl⟩;have hxl:=hw W[5] (ao h5);rw[hx]at hxl;have hg5:W.getD 5 []=x:=by simp[List.getD,h5,hx]
     simp[l6',h5,hx,wR];refine aB eok (tH x aa) ab ?_;simp;intro H3;have hE:clI W=⟨2,bs u,aL W 2,aL W 3,aL W 4,(dM (jo x)).1,[]⟩:=by unfold clI;rw[hg0];simp[ca,k2,l6,hx,hu];try omega
     rw[hE]at y1 y2 hnE;refine aB eok (cR ⟨2,bs u,aL W 2,aL W 3,aL W 4,(dM (jo x)).1,[]⟩ hnE) di ?_;by_cases q1:aW ⟨2,bs u,aL W 2,aL W 3,aL W 4,(dM (jo x)).1,[]⟩=[]
     ·exact e8
     ·by_cases q2:aW ⟨2,bs u,aL W 2,aL W 3,aL W 4,(dM (jo x)).1,[]⟩=s
      ·exact iR
      ·exact iQ
    ·have l6':¬(W.length:Int)=6:=by omega
     simp[l6'];have hE:clI W=⟨2,bs u,aL W 2,aL W 3,aL W 4,[],[]⟩:=by unfold clI;rw[hg0];simp[ca,k2,l6,l1,hu];try omega
     rw[hE]at y1 y2 hnE;refine aB eok (cR ⟨2,bs u,aL W 2,aL W 3,aL W 4,[],[]⟩ hnE) di ?_;by_cases q1:aW ⟨2,bs u,aL W 2,aL W 3,aL W 4,[],[]⟩=[]
     ·exact e8
     ·by_cases q2:aW ⟨2,bs u,aL W 2,aL W 3,aL W 4,[],[]⟩=s
      ·exact iR
      ·exact iQ
   ·simp[k3]
    refine aB eok (df W 2 aa hWl hWw) ab ?_;simp;have hE:clI W=⟨3,bs u,0,0,aL W 2,[],[]⟩:=by unfold clI;rw[hg0];simp[ca,k3,l1,hu];try omega
    rw[hE]at y1 y2 hnE;refine aB eok (cR ⟨3,bs u,0,0,aL W 2,[],[]⟩ hnE) di ?_;by_cases q1:aW ⟨3,bs u,0,0,aL W 2,[],[]⟩=[]
    ·exact e8
    ·by_cases q2:aW ⟨3,bs u,0,0,aL W 2,[],[]⟩=s
     ·exact iR
     ·exact iQ
   ·simp[k4]
    have hE:clI W=⟨4,bs u,0,0,0,[],[]⟩:=by unfold clI;rw[hg0];simp[ca,k4,l1,hu];try omega
    rw[hE]at y1 y2 hnE;refine aB eok (cR ⟨4,bs u,0,0,0,[],[]⟩ hnE) di ?_;by_cases q1:aW ⟨4,bs u,0,0,0,[],[]⟩=[]
    ·exact e8
    ·by_cases q2:aW ⟨4,bs u,0,0,0,[],[]⟩=s
     ·exact iR
     ·exact iQ
   ·simp[k5]
    refine aB eok (df W 2 aa hWl hWw) ab ?_;simp;have hE:clI W=⟨5,bs u,0,0,aL W 2,[],[]⟩:=by unfold clI;rw[hg0];simp[ca,k5,l1,hu];try omega
    rw[hE]at y1 y2 hnE;refine aB eok (cR ⟨5,bs u,0,0,aL W 2,[],[]⟩ hnE) di ?_;by_cases q1:aW ⟨5,bs u,0,0,aL W 2,[],[]⟩=[]
    ·exact e8
    ·by_cases q2:aW ⟨5,bs u,0,0,aL W 2,[],[]⟩=s
     ·exact iR
     ·exact iQ
  ·have l1':¬(1:Int)<(W.length:Int):=by omega
   simp[d,l1'];rcases hc with k1|k2|k3|k4|k5
   ·by_cases l3:W.length=3
    ·have l3':(W.length:Int)=3:=by omega
     have h2:2<W.length:=aa;obtain⟨x,hx⟩:∃x,W[2]=x:=⟨_,rfl⟩;have hxl:=hw W[2] (ao h2);rw[hx]at hxl;have hg2:W.getD 2 []=x:=by simp[List.getD,h2,hx]
     simp[k1,l3',h2,hx,wR];refine aB eok (vr x aa) ab ?_;simp;intro H3;have hE:clI W=⟨1,bs [],0,0,0,[],(dI x).1⟩:=by unfold clI;rw[hg0];simp[ca,k1,l3,hx];try omega
     rw[hE]at y1 y2 hnE;refine aB eok (cR ⟨1,bs [],0,0,0,[],(dI x).1⟩ hnE) di ?_;by_cases q1:aW ⟨1,bs [],0,0,0,[],(dI x).1⟩=[]
     ·exact e8
     ·by_cases q2:aW ⟨1,bs [],0,0,0,[],(dI x).1⟩=s
      ·exact iR
      ·exact iQ
    ·have l3':¬(W.length:Int)=3:=by omega
     simp[k1,l3'];have hE:clI W=⟨1,bs [],0,0,0,[],[]⟩:=by unfold clI;rw[hg0];simp[ca,k1,l3,l1];try omega
     rw[hE]at y1 y2 hnE;refine aB eok (cR ⟨1,bs [],0,0,0,[],[]⟩ hnE) di ?_;by_cases q1:aW ⟨1,bs [],0,0,0,[],[]⟩=[]
     ·exact e8
     ·by_cases q2:aW ⟨1,bs [],0,0,0,[],[]⟩=s
      ·exact iR
      ·exact iQ
   ·simp[k2]
    refine aB eok (df W 2 aa hWl hWw) ab ?_;simp;refine aB eok (df W 3 aa hWl hWw) ab ?_;simp;refine aB eok (df W 4 aa hWl hWw) ab ?_;simp;by_cases l6:W.length=6
    ·have l6':(W.length:Int)=6:=by omega
     have h5:5<W.length:=aa;obtain⟨x,hx⟩:∃x,W[5]=x:=⟨_,rfl⟩;have hxl:=hw W[5] (ao h5);rw[hx]at hxl;have hg5:W.getD 5 []=x:=by simp[List.getD,h5,hx]
     simp[l6',h5,hx,wR];refine aB eok (tH x aa) ab ?_;simp;intro H3;have hE:clI W=⟨2,bs [],aL W 2,aL W 3,aL W 4,(dM (jo x)).1,[]⟩:=by unfold clI;rw[hg0];simp[ca,k2,l6,hx];try omega
     rw[hE]at y1 y2 hnE;refine aB eok (cR ⟨2,bs [],aL W 2,aL W 3,aL W 4,(dM (jo x)).1,[]⟩ hnE) di ?_;by_cases q1:aW ⟨2,bs [],aL W 2,aL W 3,aL W 4,(dM (jo x)).1,[]⟩=[]
     ·exact e8
     ·by_cases q2:aW ⟨2,bs [],aL W 2,aL W 3,aL W 4,(dM (jo x)).1,[]⟩=s
      ·exact iR
      ·exact iQ
    ·have l6':¬(W.length:Int)=6:=by omega
     simp[l6'];have hE:clI W=⟨2,bs [],aL W 2,aL W 3,aL W 4,[],[]⟩:=by unfold clI;rw[hg0];simp[ca,k2,l6,l1];try omega
     rw[hE]at y1 y2 hnE;refine aB eok (cR ⟨2,bs [],aL W 2,aL W 3,aL W 4,[],[]⟩ hnE) di ?_;by_cases q1:aW ⟨2,bs [],aL W 2,aL W 3,aL W 4,[],[]⟩=[]
     ·exact e8
     ·by_cases q2:aW ⟨2,bs [],aL W 2,aL W 3,aL W 4,[],[]⟩=s
      ·exact iR
      ·exact iQ
   ·simp[k3]
    refine aB eok (df W 2 aa hWl hWw) ab ?_;simp;have hE:clI W=⟨3,bs [],0,0,aL W 2,[],[]⟩:=by unfold clI;rw[hg0];simp[ca,k3,l1];try omega
    rw[hE]at y1 y2 hnE;refine aB eok (cR ⟨3,bs [],0,0,aL W 2,[],[]⟩ hnE) di ?_;by_cases q1:aW ⟨3,bs [],0,0,aL W 2,[],[]⟩=[]
    ·exact e8
    ·by_cases q2:aW ⟨3,bs [],0,0,aL W 2,[],[]⟩=s
     ·exact iR
     ·exact iQ
   ·simp[k4]
    have hE:clI W=⟨4,bs [],0,0,0,[],[]⟩:=by unfold clI;rw[hg0];simp[ca,k4,l1];try omega
    rw[hE]at y1 y2 hnE;refine aB eok (cR ⟨4,bs [],0,0,0,[],[]⟩ hnE) di ?_;by_cases q1:aW ⟨4,bs [],0,0,0,[],[]⟩=[]
    ·exact e8
    ·by_cases q2:aW ⟨4,bs [],0,0,0,[],[]⟩=s
     ·exact iR
     ·exact iQ
   ·simp[k5]
    refine aB eok (df W 2 aa hWl hWw) ab ?_;simp;have hE:clI W=⟨5,bs [],0,0,aL W 2,[],[]⟩:=by unfold clI;rw[hg0];simp[ca,k5,l1];try omega
    rw[hE]at y1 y2 hnE;refine aB eok (cR ⟨5,bs [],0,0,aL W 2,[],[]⟩ hnE) di ?_;by_cases q1:aW ⟨5,bs [],0,0,aL W 2,[],[]⟩=[]
    ·exact e8
    ·by_cases q2:aW ⟨5,bs [],0,0,aL W 2,[],[]⟩=s
     ·exact iR
     ·exact iQ
 ·have hc:cF w=6\/cF w=7\/cF w=0\/cF w=8:=by have:=Ap w;unfold ca at d;omega
  simp[d];rcases hc with k6|k7|k0|k8
  ·simp[k6]
   refine aB eok (df W 1 aa hWl hWw) ab ?_;simp;refine aB eok (df W 2 aa hWl hWw) ab ?_;simp;have hE:clI W=⟨6,bs [],aL W 1,0,aL W 2,[],[]⟩:=by unfold clI;rw[hg0];simp[ca,k6];try omega
   rw[hE]at y1 y2 hnE;refine aB eok (cR ⟨6,bs [],aL W 1,0,aL W 2,[],[]⟩ hnE) di ?_;by_cases q1:aW ⟨6,bs [],aL W 1,0,aL W 2,[],[]⟩=[]
   ·exact e8
   ·by_cases q2:aW ⟨6,bs [],aL W 1,0,aL W 2,[],[]⟩=s
    ·exact iR
    ·exact iQ
  ·simp[k7]
   refine aB eok (df W 1 aa hWl hWw) ab ?_;simp;have hE:clI W=⟨7,bs [],aL W 1,0,0,[],[]⟩:=by unfold clI;rw[hg0];simp[ca,k7];try omega
   rw[hE]at y1 y2 hnE;refine aB eok (cR ⟨7,bs [],aL W 1,0,0,[],[]⟩ hnE) di ?_;by_cases q1:aW ⟨7,bs [],aL W 1,0,0,[],[]⟩=[]
   ·exact e8
   ·by_cases q2:aW ⟨7,bs [],aL W 1,0,0,[],[]⟩=s
    ·exact iR
    ·exact iQ
  ·simp[k0]
   have hE:clI W=⟨0,bs [],0,0,0,[],[]⟩:=by unfold clI;rw[hg0];simp[ca,k0];try omega
   rw[hE]at y1 y2 hnE;refine aB eok (cR ⟨0,bs [],0,0,0,[],[]⟩ hnE) di ?_;by_cases q1:aW ⟨0,bs [],0,0,0,[],[]⟩=[]
   ·exact e8
   ·by_cases q2:aW ⟨0,bs [],0,0,0,[],[]⟩=s
    ·exact iR
    ·exact iQ
  ·simp[k8]
   have hE:clI W=⟨8,bs [],0,0,0,[],[]⟩:=by unfold clI;rw[hg0];simp[ca,k8];try omega
   rw[hE]at y1 y2 hnE;refine aB eok (cR ⟨8,bs [],0,0,0,[],[]⟩ hnE) di ?_;by_cases q1:aW ⟨8,bs [],0,0,0,[],[]⟩=[]
   ·exact e8
   ·by_cases q2:aW ⟨8,bs [],0,0,0,[],[]⟩=s
    ·exact iR
    ·exact iQ
end Go.Proofs.YtdeimojjhhdeaaaGreatDoor
namespace Go.Proofs.YtdeimojjhhdeaaaGreatDoor
open Go.AM
set_option maxRecDepth 20000
set_option maxHeartbeats 6400000
attribute [local simp] kf ia cP gM gH fo
theorem EJ(s:List UInt8)(hl:s.length<=2^29):ar Tryz.prog 15 [.c (vs s)] (.tup [.agg (da s).1.res,.c (.v (.bool (da s).2)) 1]):=by
 refine pci aq Tryz.func15 (λw0 base=>?_);simp;intro b2;refine ae.ro (wI s aa) ab ?_;simp;refine cW ?_
 have hnI:cr (clS (bf 32 s)).o:=by
  simp only[clS];exact DJ
 obtain⟨y1,y2⟩:=uP (s:=s) (f:=clS) (λe h hn=>Bp h hn) hnI;have hw:=(dO 32 s).2
 have hwg:∀i,((bf 32 s).getD i []).length<=2^29:=λi=>by
  exact Tq
 generalize bf 32 s=W at hwg y1 y2 hnI⊢
 have hnE:jO (clS W)<=2^36:=M5 (by
  have:=hwg 1;simp only[clS]
  split
  ·rw[cP];omega
  ·rw[cP];simp) hnI (by
  have:=hwg 2;have:=BH (W.getD 2 []);simp only[clS]
  split
  ·omega
  ·simp)
 obtain⟨w,hw0⟩:∃w,W.getD 0 []=w:=⟨_,rfl⟩;obtain⟨V1,hV1⟩:∃V,W.drop 1=V:=⟨_,rfl⟩;obtain⟨V2,hV2⟩:∃V,V1.drop 1=V:=⟨_,rfl⟩;obtain⟨V3,hV3⟩:∃V,V2.drop 1=V:=⟨_,rfl⟩;obtain⟨V4,hV4⟩:∃V,V3.drop 1=V:=⟨_,rfl⟩;obtain⟨V5,hV5⟩:∃V,V4.drop 1=V:=⟨_,rfl⟩;obtain⟨V6,hV6⟩:∃V,V5.drop 1=V:=⟨_,rfl⟩;have g1:V1.getD 0 []=W.getD 1 []:=by rw[<-hV1];simp[List.getD]
 have g2:V2.getD 0 []=W.getD 2 []:=by rw[<-hV2,<-hV1];simp[List.getD]
 have g3:V3.getD 0 []=W.getD 3 []:=by rw[<-hV3,<-hV2,<-hV1];simp[List.getD]
 have g4:V4.getD 0 []=W.getD 4 []:=by rw[<-hV4,<-hV3,<-hV2,<-hV1];simp[List.getD]
 have g5:V5.getD 0 []=W.getD 5 []:=by rw[<-hV5,<-hV4,<-hV3,<-hV2,<-hV1];simp[List.getD]
 have l1:=hwg 1;have l2:=hwg 2;have l3:=hwg 3;have l4:=hwg 4;have l5:=hwg 5;obtain⟨x1,hx1⟩:∃x,W.getD 1 []=x:=⟨_,rfl⟩;obtain⟨x2,hx2⟩:∃x,W.getD 2 []=x:=⟨_,rfl⟩;obtain⟨x3,hx3⟩:∃x,W.getD 3 []=x:=⟨_,rfl⟩;obtain⟨x4,hx4⟩:∃x,W.getD 4 []=x:=⟨_,rfl⟩;obtain⟨x5,hx5⟩:∃x,W.getD 5 []=x:=⟨_,rfl⟩;rw[hx1]at l1 g1;rw[hx2]at l2 g2;rw[hx3]at l3 g3;rw[hx4]at l4 g4;rw[hx5]at l5 g5;have c1:=eX x1 aa;have c2:=eX x2 aa;have c3:=eX x3 aa;have c4:=eX x4 aa;obtain⟨⟨n1,o1⟩,t1⟩:∃t,bc x1=t:=⟨_,rfl⟩;obtain⟨⟨n2,o2⟩,t2⟩:∃t,bc x2=t:=⟨_,rfl⟩;obtain⟨⟨n3,o3⟩,t3⟩:∃t,bc x3=t:=⟨_,rfl⟩;obtain⟨⟨n4,o4⟩,t4⟩:∃t,bc x4=t:=⟨_,rfl⟩;rw[t1]at c1;rw[t2]at c2;rw[t3]at c3;rw[t4]at c4
 simp only at c1 c2 c3 c4;rw[hw0,hV1];simp;intro b6
 refine aE eok (λi:Nat=>1<=i/\i<=9) (λi=>⟨116,0,[(7,.v (.int .i64 i)),(6,.p 96 b6 0),(5,.ro (V1.map wR)),(4,.v (.string (bs w))),(3,.v (.bool false)),(2,.p 32 b2 0),(0,.v (.string (bs s)))],
  [(96,.vars b6 62 [.v (.int .i64 (LK w i)),.v (.string (bs [])),.v (.int .i64 0),.v (.int .i64 0),.v (.int .i64 0),.nil,.nil]),(32,.vars b2 62 [.v (.int .i64 0),.v (.string (bs [])),.v (.int .i64 0),.v (.int .i64 0),.v (.int .i64 0),.nil,.nil])]⟩) (λi=>9-i) 1 aa (by simp[NW]) (λi hi=>Ent.refl ?_)
 by_cases hlt:(i:Int)<=8
 ·have hnx:=Jh (w:=w) (i:=i)
  have hat:=Ji (w:=w) (k:=i) aa;simp[hlt];refine ae.pure (s8 i) ab ?_;exact QS
 have e:i=9:=aa;subst e;rw[NX];simp;refine ae.pure (yo (cF w)) ab ?_;simp;refine ae.pure (oG (cF w)) ab ?_;have hb:=Ap w;have hc:cF w=1\/cF w=2\/cF w=3\/cF w=4\/cF w=5\/cF w=6\/cF w=7\/cF w=0\/cF w=8:=aa;rcases hc with k|k|k|k|k|k|k|k|k
 ·simp[k,ca,lQ,iu]
  refine cW ?_;rw[g1,hV2];simp;refine cW ?_;rw[g2,hV3];simp;refine ae.pure (uR x2 aa) ab ?_;simp;intro H3;have hE:clS W=⟨1,bs x1,0,0,0,[],(dI x2).1⟩:=pf;rw[hE]at y1 y2 hnE;refine ae.pure (cQ ⟨1,bs x1,0,0,0,[],(dI x2).1⟩ hnE) di ?_;by_cases q1:aW ⟨1,bs x1,0,0,0,[],(dI x2).1⟩=[]
  ·exact e8
  ·simp[q1]
   refine ae.pure (cQ ⟨1,bs x1,0,0,0,[],(dI x2).1⟩ hnE) di ?_;by_cases q2:aW ⟨1,bs x1,0,0,0,[],(dI x2).1⟩=s
   ·exact pt
   ·exact pw
 ·simp[k,ca,lQ,iu]
  refine cW ?_;rw[g1,hV2];simp;refine cW ?_;rw[g2,hV3];simp;refine ae.pure c2 ab ?_;simp;refine cW ?_;rw[g3,hV4];simp;refine ae.pure c3 ab ?_;simp;refine cW ?_;rw[g4,hV5];simp;refine ae.pure c4 ab ?_;simp;refine cW ?_;rw[g5,hV6];simp;refine ae.pure (uk x5 aa) ab ?_;simp;intro H3;have hE:clS W=⟨2,bs x1,n2,n3,n4,(dM (x5.map iK)).1,[]⟩:=pf;rw[hE]at y1 y2 hnE;refine ae.pure (cQ ⟨2,bs x1,n2,n3,n4,(dM (x5.map iK)).1,[]⟩ hnE) di ?_;by_cases q1:aW ⟨2,bs x1,n2,n3,n4,(dM (x5.map iK)).1,[]⟩=[]
  ·exact e8
  ·simp[q1]
   refine ae.pure (cQ ⟨2,bs x1,n2,n3,n4,(dM (x5.map iK)).1,[]⟩ hnE) di ?_;by_cases q2:aW ⟨2,bs x1,n2,n3,n4,(dM (x5.map iK)).1,[]⟩=s
   ·exact pt
   ·exact pw
 ·simp[k,ca,lQ,iu]
  refine cW ?_;rw[g1,hV2];simp;refine cW ?_;rw[g2,hV3];simp;refine ae.pure c2 ab ?_;simp;have hE:clS W=⟨3,bs x1,0,0,n2,[],[]⟩:=pf;rw[hE]at y1 y2 hnE;refine ae.pure (cQ ⟨3,bs x1,0,0,n2,[],[]⟩ hnE) di ?_;by_cases q1:aW ⟨3,bs x1,0,0,n2,[],[]⟩=[]
  ·exact e8
  ·simp[q1]
   refine ae.pure (cQ ⟨3,bs x1,0,0,n2,[],[]⟩ hnE) di ?_;by_cases q2:aW ⟨3,bs x1,0,0,n2,[],[]⟩=s
   ·exact pt
   ·exact pw
 ·simp[k,ca,lQ,iu]
  refine cW ?_;rw[g1,hV2];simp;have hE:clS W=⟨4,bs x1,0,0,0,[],[]⟩:=pf;rw[hE]at y1 y2 hnE;refine ae.pure (cQ ⟨4,bs x1,0,0,0,[],[]⟩ hnE) di ?_;by_cases q1:aW ⟨4,bs x1,0,0,0,[],[]⟩=[]
  ·exact e8
  ·simp[q1]
   refine ae.pure (cQ ⟨4,bs x1,0,0,0,[],[]⟩ hnE) di ?_;by_cases q2:aW ⟨4,bs x1,0,0,0,[],[]⟩=s
   ·exact pt
   ·exact pw
 ·simp[k,ca,lQ,iu]
  refine cW ?_;rw[g1,hV2];simp;refine cW ?_;rw[g2,hV3];simp;refine ae.pure c2 ab ?_;simp;have hE:clS W=⟨5,bs x1,0,0,n2,[],[]⟩:=pf;rw[hE]at y1 y2 hnE;refine ae.pure (cQ ⟨5,bs x1,0,0,n2,[],[]⟩ hnE) di ?_;by_cases q1:aW ⟨5,bs x1,0,0,n2,[],[]⟩=[]
  ·exact e8
  ·simp[q1]
   refine ae.pure (cQ ⟨5,bs x1,0,0,n2,[],[]⟩ hnE) di ?_;by_cases q2:aW ⟨5,bs x1,0,0,n2,[],[]⟩=s
   ·exact pt
   ·exact pw
 ·simp[k,ca,lQ,iu]
  refine cW ?_;rw[g1,hV2];simp;refine ae.pure c1 ab ?_;simp;refine cW ?_;rw[g2,hV3];simp;refine ae.pure c2 ab ?_;simp;have hE:clS W=⟨6,bs [],n1,0,n2,[],[]⟩:=pf;rw[hE]at y1 y2 hnE;refine ae.pure (cQ ⟨6,bs [],n1,0,n2,[],[]⟩ hnE) di ?_;by_cases q1:aW ⟨6,bs [],n1,0,n2,[],[]⟩=[]
  ·exact e8
  ·simp[q1]
   refine ae.pure (cQ ⟨6,bs [],n1,0,n2,[],[]⟩ hnE) di ?_;by_cases q2:aW ⟨6,bs [],n1,0,n2,[],[]⟩=s
   ·exact pt
   ·exact pw
 ·simp[k,ca,lQ,iu]
  refine cW ?_;rw[g1,hV2];simp;refine ae.pure c1 ab ?_;simp;have hE:clS W=⟨7,bs [],n1,0,0,[],[]⟩:=pf;rw[hE]at y1 y2 hnE;refine ae.pure (cQ ⟨7,bs [],n1,0,0,[],[]⟩ hnE) di ?_;by_cases q1:aW ⟨7,bs [],n1,0,0,[],[]⟩=[]
  ·exact e8
  ·simp[q1]
   refine ae.pure (cQ ⟨7,bs [],n1,0,0,[],[]⟩ hnE) di ?_;by_cases q2:aW ⟨7,bs [],n1,0,0,[],[]⟩=s
   ·exact pt
   ·exact pw
 ·simp[k,ca,lQ,iu]
  have hE:clS W=⟨0,bs [],0,0,0,[],[]⟩:=pf;rw[hE]at y1 y2 hnE;refine ae.pure (cQ ⟨0,bs [],0,0,0,[],[]⟩ hnE) di ?_;by_cases q1:aW ⟨0,bs [],0,0,0,[],[]⟩=[]
  ·exact e8
  ·simp[q1]
   refine ae.pure (cQ ⟨0,bs [],0,0,0,[],[]⟩ hnE) di ?_;by_cases q2:aW ⟨0,bs [],0,0,0,[],[]⟩=s
   ·exact pt
   ·exact pw
 ·simp[k,ca,lQ,iu]
  have hE:clS W=⟨8,bs [],0,0,0,[],[]⟩:=pf;rw[hE]at y1 y2 hnE;refine ae.pure (cQ ⟨8,bs [],0,0,0,[],[]⟩ hnE) di ?_;by_cases q1:aW ⟨8,bs [],0,0,0,[],[]⟩=[]
  ·exact e8
  ·simp[q1]
   refine ae.pure (cQ ⟨8,bs [],0,0,0,[],[]⟩ hnE) di ?_;by_cases q2:aW ⟨8,bs [],0,0,0,[],[]⟩=s
   ·exact pt
   ·exact pw
end Go.Proofs.YtdeimojjhhdeaaaGreatDoor
namespace Go.Proofs.YtdeimojjhhdeaaaGreatDoor
open Go.AM
set_option maxRecDepth 20000
set_option maxHeartbeats 6400000
attribute [local simp] kf ia cP gM gH wR
end Go.Proofs.YtdeimojjhhdeaaaGreatDoor
