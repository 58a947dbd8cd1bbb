import Derived.Test.YtklblkobegcljaaGreatPC
import Derived.Test.YtklblkobegcljaaGreatPB
import Derived.Test.YtklblkobegcljaaGreatNA
import Derived.Test.YtklblkobegcljaaGreatMF
import Derived.Lib.AppendZerosOnto
import Derived.Lib.Overlaps
import Derived.Laws.IdiomCopy
import Derived.Laws.Externs
import Derived.Test.YtklblkobegcljaaGreatMH
import Derived.Shelf.RegionOpenPlain
namespace Go.Proofs.YtklblkobegcljaaGreat
open Go.AM
set_option maxRecDepth 20000
noncomputable def mG:List (List Part)->List Part->Option (List Part)
 | [],v=>some v
 |a::l,v=>if(bu a v).2.2=true then mG l (bu a v).2.1 else none
open Classical in
noncomputable def kK(l:List (List Part))(b:List Part):List Part×Bool:=
 if dH b then match mG l (dJ b)with
  |some v=>(v,true)
  |none=>([],false)
 else([],false)
structure Shp(q:Part):Prop where
 k:q.kind=1\/q.kind=2\/q.kind=3
 n:0<=q.n
 put:q.kind=2->q.n=0/\ja q.signs
 run:q.kind≠2->q.signs=[]
 pos:0<psz q
theorem Cw{L:List Part}{P:List Int}{D:Int}(hL:∀q∈L,Shp q)(hP:ja P):∀q∈bN L P D,Shp q:=by
 intro q hq;unfold bN at hq;rcases aP.1 hq with hq|hq
 ·exact hL q hq
 ·rcases aP.1 hq with hq|hq
  ·split at hq
   ·simp at hq
   ·rename_i h
    simp at hq;subst hq;have:0<P.length:=eN.2 h;exact⟨.inr (.inl rfl),ab,λ_=>⟨rfl,hP⟩,λh=>absurd rfl h,by simpa[psz]using this⟩
  ·split at hq
   ·rename_i h
    simp at hq;subst hq;exact⟨.inr (.inr rfl),gI,λh=>ik,λ_=>rfl,by simp[psz];omega⟩
   ·simp at hq
theorem SP{L:List Part}{n:Int}(hL:∀q∈L,Shp q)(hn:0<n):∀q∈dN L n,Shp q:=by
 intro q hq;have one:Shp ⟨1,n,[]⟩:=⟨.inl rfl,gI,λh=>ik,λ_=>rfl,by simp[psz];omega⟩;unfold dN at hq
 split at hq
 ·rename_i hl
  split at hq
  ·rename_i k
   rcases iH hq with hq|rfl
   ·exact hL q hq
   ·have h:=hL (L[L.length-1]' aa) (ak _)
    have h1:=h.n;have h2:=h.run aa;exact⟨.inl rfl,gI,λh=>ik,λ_=>h2,by simp[psz];omega⟩
  ·rcases aP.1 hq with hq|hq
   ·exact hL q hq
   ·simp at hq;subst hq;exact one
 ·simp at hq;subst hq;exact one
theorem CS{o:List Part}(ho:∀p∈o,bb p):∀(i:Nat),i<=o.length->(∀q∈(cr (o.take i)).1,Shp q)/\ja (cr (o.take i)).2.1
 |0,_=>by simp[cr,ja]
 | i + 1, hi => by
   obtain⟨h1,h2⟩:=CS ho i aa;have hlt:i<o.length:=aa;have hp:=ho _ (ak hlt);rw[kB hlt];generalize cr (o.take i)=s at h1 h2;generalize o[i]=p at hp;obtain⟨L,P,D⟩:=s;simp only at h1 h2;unfold gz
   split
   ·rename_i k
    rw[kl k]at hp;refine⟨h1,λn hn=>?_⟩;rcases aP.1 hn with hn|hn
    ·exact h2 n hn
    ·exact hp.2.2 n hn
   ·split
    ·exact⟨h1,h2⟩
    ·split
     ·rename_i hn
      exact⟨SP (Cw h1 h2) hn,by simp[ja]⟩
     ·exact⟨h1,h2⟩
theorem Ao{o:List Part}(ho:∀p∈o,bb p):∀q∈normal o,Shp q:=by
 have h:=CS ho o.length (aH _);rw[cU]at h;exact Cw h.1 h.2
theorem K0:∀{L:List Part},(∀q∈L,Shp q)->tos L=toA (bW L)
 | [],_=>rfl
 | p :: L, h => by
   have hp:=h p (aJ ..);simp only[tos,bW,kg,K0 (λq hq=>h q (aC _ hq))]
   congr 1
   unfold ats;by_cases k:p.kind=2
   ·have k3:¬p.kind=3:=by omega
    have:=(hp.put k).1;rw[an k,aq k3,zJ];simp[psz,this]
   ·rw[aq k]
    split
    ·exact(zK _).symm
    ·exact(Jk _).symm
theorem Xc{L:List Part}{q:Part}(h:q∈L)(k:q.kind≠2):psz q<=frs L:=by
 induction L with
 |nil=>simp at h
 | cons p L ih =>
   simp only[frs];exact LW
theorem VR{L:List Part}{q:Part}(h:q∈L)(k:q.kind≠3):psz q<=tos L:=by
 induction L with
 |nil=>simp at h
 | cons p L ih =>
   simp only[tos];exact LW
theorem KZ:∀{L:List Part},(∀q∈L,Shp q)->L.length<=tsz L
 | [],_=>by simp[tsz]
 | p :: L, h => by
   have:=KZ (λq hq=>h q (aC _ hq));have:=(h p (aJ ..)).pos;simp only[tsz,cI];omega
theorem aad{L:List Part}(h:∀q∈L,Shp q)(h1:frs L<=200)(h2:tos L<=200):ga L:=by
 have hl:=KZ h;have ht:=Jg L;refine⟨λq hq=>?_,aa⟩;have hs:=h q hq;have hn:=hs.n;by_cases k:q.kind=2
 ·have h3:=VR hq aa
  have h4:=hs.put k;exact .inr ⟨k,h4.1,by unfold psz at h3;omega,h4.2⟩
 ·have h3:=Xc hq k
  have h4:=hs.run k;have hk:=hs.k;exact .inl ⟨aa,⟨hn,by unfold psz at h3;omega⟩,h4⟩
theorem JG{o:List Part}(h:ga o):(frs o:Int)=db o:=by
 rw[Gb h.1,kj (λp hp=>abj (h.1 p hp)),np];unfold db eM;rw[an h]
theorem Tc{o:List Part}(h:ga o):(tos o:Int)=oT o:=by
 rw[DA h.1,kj (λp hp=>abi (h.1 p hp)),np];unfold oT eM;rw[an h]
theorem wH{o:List Part}(h:dH o):dH (normal o)/\db (normal o)=db o/\oT (normal o)=oT o:=by
 have hs:=Ao h.1.1;have e1:frs (normal o)=frs o:=by rw[uG,lL h.1.1,Ar,<-uG]
 have e2:tos (normal o)=tos o:=by rw[K0 hs,lL h.1.1,Aq,<-wq h.1.1]
 have f:=pC h;have t:=wo h;have hp:=aad hs (by have:=h.2.1;omega) (by have:=h.2.2;omega);have f2:=JG hp;have t2:=Tc hp;have:=h.2;exact⟨⟨hp,aa,aa⟩,aa,aa⟩
theorem Qf{o:List Part}(h:dH o):dH (dJ o)/\db (dJ o)=db o/\oT (dJ o)=oT o:=by
 have:dJ o=normal o:=by unfold dJ;rw[an h]
 rw[this];exact wH h
def df(c s r:Int):List Seen->List Seen
 | []=>[⟨c,s,r⟩]
 |x::l=>if x.client<c then x::df c s r l else if x.client=c then⟨c,s,r⟩::l else⟨c,s,r⟩::x::l
noncomputable def cX(d:Doc)(e:Entry):Doc:=
 if d.list.length<8 then⟨d.name,d.fr,d.text,d.list++[e],df e.client e.seq (aD d+1) d.seen⟩
 else⟨d.name,d.fr+1,(apply ((d.list++[e])[0]' ab).o d.text).1,(d.list++[e]).drop 1,df e.client e.seq (aD d+1) d.seen⟩
open Classical in
noncomputable def eY(d:Doc)(base:Int)(o:List Part):List Part×Int:=
 if bV d/\dH o then
  if aD d<base then([],2)else if base<d.fr then([],3)else
  if db o=(ir d base).1.length then
   if(kK ((d.list.drop (base-d.fr).toNat).map Entry.o) o).2=true then((kK ((d.list.drop (base-d.fr).toNat).map Entry.o) o).1,0)else([],5)
  else([],1)
 else([],1)
def G7(d:Doc)(client seq:Int)(o:List Part):Prop:=bV d/\(1<=client/\client<=8)/\(1<=seq/\seq<=1000000000)/\dH o
open Classical in
noncomputable def dg(d:Doc)(client seq base:Int)(o:List Part):Doc×Int×Int:=
 if G7 d client seq o then
  if(fZ d client).1.seq=seq then(d,(fZ d client).1.rev,0)
  else if(fZ d client).1.seq+1=seq then
   if(eY d base o).2=0 then
    if 999999000<=aD d then(Doc.zero,0,5)else(cX d ⟨client,seq,(eY d base o).1⟩,aD d+1,0)
   else(Doc.zero,0,(eY d base o).2)
  else(Doc.zero,0,4)
 else(Doc.zero,0,1)
open Classical in
noncomputable def lA(d:Doc)(rev:Int):List Entry×Int:=
 if bV d then if aD d<rev then([],2)else if rev<d.fr then([],3)else(d.list.drop (rev-d.fr).toNat,0)else([],1)
theorem Am:∀(l:List (List Part)) (t u:List Int) (v v':List Part),bq l t=some u->mG l v=some v'->dH v->db v=t.length->dH v'/\db v'=u.length
 | [], t, u, v, v', h1, h2, h3, h4 => by
   simp only[bq,eP]at h1;simp only[mG,eP]at h2;subst h1 h2;exact⟨h3,h4⟩
 | a :: l, t, u, v, v', h1, h2, h3, h4 => by
   rw[bq]at h1;rw[mG]at h2
   split at h1
   ·rename_i ha
    split at h2
    ·rename_i ht
     have k:=B6 ht;have hl:=(ng (nm.1 ha)).2;exact Am l _ u _ v' h1 h2 k.oky (by rw[k.fy];omega)
    ·cases h2
   ·cases h1
theorem jM:∀(l m:List (List Part)) (t:List Int),bq (l++m) t=(bq l t).bind (bq m)
 | [],m,t=>by simp[bq]
 | o :: l, m, t => by
   rw[dn,bq,bq]
   split
   ·exact jM l m _
   ·simp
theorem pJ:∀(l:List (List Part)) (t u:List Int),eL t->bq l t=some u->eL u
 | [],t,u,h,e=>by simp only[bq,eP]at e;exact e ▸ h
 | o :: l, t, u, h, e => by
   rw[bq]at e
   split at e
   ·rename_i ha
    exact pJ l _ u (ng (nm.1 ha)).1 e
   ·cases e
theorem re{d:Doc}(h:bV d){rev:Int}(h1:d.fr<=rev)(h2:rev<=aD d):(ir d rev).2=true/\bq ((d.list.take (rev-d.fr).toNat).map Entry.o) d.text=some (ir d rev).1/\eL (ir d rev).1 /\
 bq ((d.list.drop (rev-d.fr).toNat).map Entry.o) (ir d rev).1=bq (d.list.map Entry.o) d.text:=by
 have hs:=h.2.2.2.2.2.1;have ht:=h.2.2.1;have e:d.list.map Entry.o=(d.list.take (rev-d.fr).toNat).map Entry.o++(d.list.drop (rev-d.fr).toNat).map Entry.o:=by rw[<-fR,dV]
 have e2:ir d rev=fW ((d.list.take (rev-d.fr).toNat).map Entry.o) d.text:=by unfold ir;rw[an ⟨h,h1,h2⟩]
 rw[e,jM]at hs
 cases hx:bq ((d.list.take (rev-d.fr).toNat).map Entry.o) d.text with
 |none=>rw[hx]at hs;simp at hs
 | some u =>
   have e3:fW ((d.list.take (rev-d.fr).toNat).map Entry.o) d.text=(u,true):=by unfold fW;rw[an ht,hx]
   rw[e2,e3];refine⟨rfl,rfl,pJ _ _ _ ht hx,?_⟩
   conv=>rhs;rw[e,jM,hx]
   rfl
theorem tW{d:Doc}(h:bV d):bq (d.list.map Entry.o) d.text=some (fe d)/\eL (fe d):=by
 have hh:=dt h;have h0:d.fr<=aD d:=aa;obtain⟨h1,h2,h3,h4⟩:=re h h0 aa;have e:(aD d-d.fr).toNat=d.list.length:=aa;rw[e,cU]at h2;exact⟨h2,h3⟩
theorem vS{d:Doc}{base:Int}{o:List Part}(hd:bV d)(ho:dH o)(h1:d.fr<=base)(h2:base<=aD d)(hf:db o=(ir d base).1.length)
 (hp:(kK ((d.list.drop (base-d.fr).toNat).map Entry.o) o).2=true):mm (kK ((d.list.drop (base-d.fr).toNat).map Entry.o) o).1 (fe d):=by
 obtain⟨k1,k2,k3,k4⟩:=re hd h1 h2;obtain⟨m1,m2⟩:=tW hd;rw[m1]at k4;unfold kK at hp⊢;rw[an ho]at hp⊢
 cases hx:mG ((d.list.drop (base-d.fr).toNat).map Entry.o) (dJ o)with
 |none=>rw[hx]at hp;simp at hp
 | some v =>
   have hn:=Qf ho;have:=Am _ _ _ _ _ k4 hx hn.1 (by rw[hn.2.1,hf]);exact⟨this.1,m2,this.2⟩
set_option maxHeartbeats 1600000
theorem SU(l:List Seen):∀a∈l,∀d∈a.row,isV d=true:=by
 intro a _ d hd;simp[Seen.row]at hd;rcases hd with rfl|rfl|rfl<;>rfl
theorem jW(l:List Entry)(hl:nL aZ l<=2^30):ar Tryz.prog 194 [.c (.s (l.map Entry.row))] (.one (.c (.s (l.map Entry.row)) 3)):=by
 refine pci aw Tryz.func194 (λw0 base=>?_);have hle:=aS hl;simp;refine aE eok (λx:Nat×Hd=>x.1<=l.length) (λx=>⟨22,0,[(8,.v (.int .i64 x.1)),(7,.v (.int .i64 l.length)),(6,.ro (l.map Entry.row)),(3,.sl 5000 x.2 3 0 x.1)],[(5000,.rows x.2 3 ((l.take x.1).map Entry.row) true)]⟩) (λx=>l.length-x.1) (0,none) ab ab (λx hx=>Ent.refl ?_);obtain⟨i,H⟩:=x;simp only at hx⊢;by_cases hlt:i<l.length
 ·have hm:=cT hl hlt
  unfold aZ at hm;simp[hlt,Entry.row];intro b5;refine ag.pure (A7 l[i].o hm) ab ?_;simp;intro H1;have e1:min i l.length=i:=aa;simp[e1];intro b6;exact Ni
 ·exact Ey
theorem AB(e:Entry)(hl:aZ e<=2^30):ar Tryz.prog 218 [.agg e.row] (.one (.agg e.res)):=by
 refine pci aw Tryz.func218 (λw0 base=>?_);unfold aZ at hl;simp[Entry.row];intro b1 b2;refine drw eok mix [0,1,2,3,4,5] [6,7,8] (.c 6 6 1 62 (.c 6 7 20 42 (.c 6 8 42 0 (.l 6 0) .s) .s) .s) ?_;simp
 try intros
 refine ag.pure (wL e.o aa) ab ?_;simp
 try intros
 simp[Entry.res]
theorem gM(l:List Entry)(hl:nL aZ l<=2^30):ar Tryz.prog 167 [.c (.s (l.map Entry.row))] (.one (.c (.s (l.map Entry.row)) 3)):=by
 refine pci aw Tryz.func167 (λw0 base=>?_);have hle:=aS hl;simp;intro b6;refine aE eok (λx:Nat×Hd=>x.1<=l.length) (λx=>⟨20,0,[(9,.v (.int .i64 x.1)),(8,.v (.int .i64 l.length)),(7,.ro (l.map Entry.row)),(3,.sl 96 x.2 3 0 x.1)],[(96,.rows x.2 3 ((l.take x.1).map Entry.row) true)]⟩) (λx=>l.length-x.1) (0,some (b6,0,0)) ab ab (λx hx=>Ent.refl ?_);obtain⟨i,H⟩:=x;simp only at hx⊢;by_cases hlt:i<l.length
 ·have hm:=cT hl hlt
  simp[hlt,Entry.row];intro b5;refine ag.pure (AB l[i] hm) fB ?_;simp[Entry.res];intro H1;have e1:min i l.length=i:=aa;simp[e1];intro b7;exact Ni
 ·exact Ey
theorem xb(d:Doc)(hl:cN d<=2^30):ar Tryz.prog 136 [.agg d.row] (.one (.agg d.res)):=by
 refine pci aw Tryz.func136 (λw0 base=>?_);obtain⟨n1,n2,n3,n4⟩:=eB hl;simp[Doc.row];intro b1 b2;refine drw eok mix [0,1,2,3,4,5,7,8,10,11] [6,9,12,13,14] (.c 10 6 16 1007 (.c 10 9 4 1003 (.c 10 12 1 1002 (.c 10 13 320 682 (.c 10 14 682 0 (.l 10 0) .s) .s) .s) .s) .s) ?_;simp
 try intros
 refine ag.pure (jy d.text aa) ab ?_;simp
 try intros
 refine ag.pure (jW d.list n1) ab ?_;simp
 try intros
 refine⟨SU d.seen,aa,λH=>?_⟩;simp[Doc.res]
theorem wK(d:Doc)(hl:cN d<=2^30):ar Tryz.prog 115 [.agg d.row] (.one (.agg d.res)):=by
 refine pci aw Tryz.func115 (λw0 base=>?_);obtain⟨n1,n2,n3,n4⟩:=eB hl;simp[Doc.row];intro b1 b2;have h8:d.text.length*8<=140737488355328:=aa;have h24:d.seen.length*24<=140737488355328:=aa;refine drw eok mix [0,1,2,3,5,6,8,9,12,13] [4,7,10,11,14,15,16] (.c 10 4 0 1023 (.c 10 7 16 1007 (.c 10 10 4 1003 (.c 10 11 0 1003 (.c 10 14 1 1002 (.c 10 15 320 682 (.c 10 16 682 0 (.l 10 0) .s) .s) .s) .s) (.c 10 11 0 1007 (.c 10 10 4 1003 (.c 10 14 1 1002 (.c 10 15 320 682 (.c 10 16 682 0 (.l 10 0) .s) .s) .s) .s) .s)) (.c 10 11 0 1023 (.c 10 7 16 1007 (.c 10 10 4 1003 (.c 10 14 1 1002 (.c 10 15 320 682 (.c 10 16 682 0 (.l 10 0) .s) .s) .s) .s) .s) .s)) (.c 10 11 0 1023 (.c 10 4 0 1023 (.c 10 7 16 1007 (.c 10 10 4 1003 (.c 10 14 1 1002 (.c 10 15 320 682 (.c 10 16 682 0 (.l 10 0) .s) .s) .s) .s) .s) .s) .s)) ?_;simp
 try intros
 repeat' first
  |(refine ag.pure (gM d.list n1) ab ?_;simp[h24];try intros)
  |(rw[Trc];refine⟨?_,?_⟩<;>(try simp[h8,h24])<;>try intros)
 all_goals
  simp[Doc.res];exact SU d.seen
noncomputable def lD:List (List Part)->List Part->Option (List (List Part)×List Part)
 | [],v=>some ([],v)
 |a::l,v=>if(bu a v).2.2=true then(lD l (bu a v).2.1).map (λr=>((bu a v).1::r.1,r.2))else none
theorem OU:∀(l:List (List Part)) (v:List Part),(lD l v).map Prod.snd=mG l v
 | [],v=>rfl
 | a :: l, v => by
   rw[lD,mG]
   split
   ·rw[<-OU l,Option.map_map];rfl
   ·rfl
open Classical in
noncomputable def iY(l:List (List Part))(b:List Part):List (List Part)×List Part×Bool:=
 if dH b then match lD l (dJ b)with
  |some r=>(r.1,r.2,true)
  |none=>([],[],false)
 else([],[],false)
theorem AW(l:List (List Part))(b:List Part):(iY l b).2=kK l b:=by
 unfold iY kK
 split
 ·rw[<-OU]
  cases lD l (dJ b)<;>rfl
 ·rfl
theorem Ak{l:List (List Part)}{i:Nat}{v:List Part}(h:i<l.length):lD (l.drop i) v=if(bu l[i] v).2.2=true then(lD (l.drop (i+1)) (bu l[i] v).2.1).map (λr=>((bu l[i] v).1::r.1,r.2))else none:=by
 rw[dj h,lD]
theorem CG{l:List (List Part)}{i:Nat}{v:List Part}(h:l.length<=i):lD (l.drop i) v=some ([],v):=by
 rw[bm h,lD]
theorem Ik(l:List (List Part))(b:List Part)(hl:l.length<=2^30)(hs:∀o∈l,nL bc o<=2^40)(hb:nL bc b<=2^40):ar Tryz.prog 271 [.c (.s (l.map iX)),.c (.s (b.map Part.row))]
 (.tup [.c (.s ((iY l b).1.map iX)) 1,.c (.s ((iY l b).2.1.map Part.row)) 3,.c (.v (.bool (iY l b).2.2)) 1]):=by
 refine pci aw Tryz.func271 (λw0 base=>?_);simp;refine ag.pure (hU b hb) ab ?_;by_cases c1:dH b
 rotate_left
 ·have e:iY l b=([],[],false):=by unfold iY;rw[aq c1]
  simp[az c1,e]
 have e:iY l b=match lD l (dJ b)with
  |some r=>(r.1,r.2,true)
  |none=>([],[],false):=by unfold iY;rw[an c1]
 simp[c1];refine ag.pure (vM b hb) ab ?_;simp;intro H0
 refine aE eok (λx:(Nat×List (List Part)×List Part×Nat)×Hd×Hd=>(x.1.2.2.2=288\/x.1.2.2.2=449)/\(x.1.1<=l.length/\x.1.2.1.length=x.1.1)/\nL bc x.1.2.2.1<=2^40/\lD l (dJ b)=(lD (l.drop x.1.1) x.1.2.2.1).map (λr=>(x.1.2.1++r.1,r.2)))
  (λx=>⟨42,0,[(21,.v (.int .i64 x.1.1)),(20,.v (.int .i64 l.length)),(19,.ro (l.map iX)),(8,.sl x.1.2.2.2 x.2.2 3 0 x.1.2.2.1.length),(7,.sl 5000 x.2.1 1 0 x.1.2.1.length)],
   [(5000,.rows x.2.1 1 (x.1.2.1.map iX) true),(x.1.2.2.2,.rows x.2.2 3 (x.1.2.2.1.map Part.row) true)]⟩) (λx=>l.length-x.1.1) ((0,[],dJ b,288),none,H0) ⟨.inl rfl,ab,by have:=vy b;simp only;omega,ab⟩ ab (λx hx=>Ent.refl ?_)
 obtain⟨⟨i,L,v,kk⟩,H1,H2⟩:=x;obtain⟨hk,⟨hi,hLl⟩,hv,hp⟩:=hx;simp only at hk hi hLl hv hp⊢;have k5:¬kk=5000:=aa;have k5':¬5000=kk:=aa;by_cases hlt:i<l.length
 ·rw[Ak hlt]at hp
  have hn:=qv l[i] v;simp[hlt];refine ag.pure (yu l[i] v (hs _ (ak hlt)) hv) (by simp[k5]) ?_;generalize bu l[i] v=Q at hp hn⊢;obtain⟨x,y,ok⟩:=Q;simp only at hp hn⊢;simp;intro G1 G2
  cases ok with
  | false =>
    simp at hp;rw[hp]at e;simp[e]
  | true =>
    simp only[du]at hp;simp;intro b6;refine⟨aa,λH=>Ent.refl ⟨i+1,L++[x],y,449,⟨.inr rfl,⟨aa,aN⟩,aa,?_⟩,aa,H,G2,?_⟩⟩
    ·rw[hp]
     cases lD (l.drop (i+1)) y<;>simp
    ·exact og
 ·rw[CG aa]at hp
  simp only[fQ,bO]at hp;rw[hp]at e;simp[hlt,e,k5]
theorem Pg(l:List (List Part))(b:List Part):nL bc (kK l b).1<=2^20:=by
 have key:∀(l:List (List Part)) (v u:List Part),nL bc v<=2^20->mG l v=some u->nL bc u<=2^20:=by
  intro l
  induction l with
  |nil=>intro v u h1 h2;simp only[mG,eP]at h2;exact h2 ▸ h1
  | cons a l ih =>
    intro v u h1 h2;rw[mG]at h2
    split at h2
    ·exact ih _ u (by have:=qv a v;omega) h2
    ·cases h2
 unfold kK
 split
 ·cases h:mG l (dJ b)with
  |none=>simp[nL,cK]
  |some v=>exact key l _ v (vy b) h
 ·simp[nL,cK]
theorem J4(l:List (List Part))(b:List Part)(hl:l.length<=2^30)(hs:∀o∈l,nL bc o<=2^40)(hb:nL bc b<=2^40):ar Tryz.prog 259 [.c (.s (l.map iX)),.c (.s (b.map Part.row))]
 (.tup [.c (.s ((kK l b).1.map Part.row)) 3,.c (.v (.bool (kK l b).2)) 1]):=by
 refine pci aw Tryz.func259 (λw0 base=>?_);simp;refine ag.pure (Ik l b hl hs hb) ab ?_;rw[<-AW];generalize iY l b=Q;obtain⟨x,y,ok⟩:=Q;simp
theorem G9(l:List (List Part))(b:List Part)(hl:l.length<=2^30)(hs:∀o∈l,nL bc o<=2^40)(hb:nL bc b<=2^40):ar Tryz.prog 267 [.c (.s (l.map iX)),.c (.s (b.map Part.row))]
 (.tup [.c (.s ((iY l b).1.map iX)) 1,.c (.s ((iY l b).2.1.map Part.row)) 3,.c (.v (.bool (iY l b).2.2)) 1]):=by
 refine pci aw Tryz.func267 (λw0 base=>?_);simp;refine ag.pure (gX b hb) ab ?_;by_cases c1:dH b
 rotate_left
 ·have e:iY l b=([],[],false):=by unfold iY;rw[aq c1]
  simp[az c1,e]
 have e:iY l b=match lD l (dJ b)with
  |some r=>(r.1,r.2,true)
  |none=>([],[],false):=by unfold iY;rw[an c1]
 simp[c1];intro b9;refine ag.pure (vo b hb) ab ?_;simp;intro H0
 refine aE eok (λx:(Nat×List (List Part)×List Part×Nat)×Hd×Hd=>(x.1.2.2.2=304\/x.1.2.2.2=465)/\(x.1.1<=l.length/\x.1.2.1.length=x.1.1)/\nL bc x.1.2.2.1<=2^40/\lD l (dJ b)=(lD (l.drop x.1.1) x.1.2.2.1).map (λr=>(x.1.2.1++r.1,r.2)))
  (λx=>⟨43,0,[(22,.v (.int .i64 x.1.1)),(21,.v (.int .i64 l.length)),(20,.ro (l.map iX)),(8,.sl x.1.2.2.2 x.2.2 3 0 x.1.2.2.1.length),(7,.sl 272 x.2.1 1 0 x.1.2.1.length)],
   [(272,.rows x.2.1 1 (x.1.2.1.map iX) true),(x.1.2.2.2,.rows x.2.2 3 (x.1.2.2.1.map Part.row) true)]⟩) (λx=>l.length-x.1.1) ((0,[],dJ b,304),some (b9,0,0),H0) ⟨.inl rfl,ab,by have:=vy b;simp only;omega,ab⟩ ab (λx hx=>Ent.refl ?_)
 obtain⟨⟨i,L,v,kk⟩,H1,H2⟩:=x;obtain⟨hk,⟨hi,hLl⟩,hv,hp⟩:=hx;simp only at hk hi hLl hv hp⊢;have k5:¬kk=272:=aa;have k5':¬272=kk:=aa;by_cases hlt:i<l.length
 ·rw[Ak hlt]at hp
  have hn:=qv l[i] v;simp[hlt];refine ag.pure (yn l[i] v (hs _ (ak hlt)) hv) (by simp[k5]) ?_;generalize bu l[i] v=Q at hp hn⊢;obtain⟨x,y,ok⟩:=Q;simp only at hp hn⊢;simp;intro G1 G2
  cases ok with
  | false =>
    simp at hp;rw[hp]at e;simp[e]
  | true =>
    simp only[du]at hp;simp;intro b6;refine⟨aa,λH=>Ent.refl ⟨i+1,L++[x],y,465,⟨.inr rfl,⟨aa,aN⟩,aa,?_⟩,aa,H,G2,?_⟩⟩
    ·rw[hp]
     cases lD (l.drop (i+1)) y<;>simp
    ·exact og
 ·rw[CG aa]at hp
  simp only[fQ,bO]at hp;rw[hp]at e;simp[hlt,e,k5]
theorem Jo(l:List (List Part))(b:List Part)(hl:l.length<=2^30)(hs:∀o∈l,nL bc o<=2^40)(hb:nL bc b<=2^40):ar Tryz.prog 250 [.c (.s (l.map iX)),.c (.s (b.map Part.row))]
 (.tup [.c (.s ((kK l b).1.map Part.row)) 3,.c (.v (.bool (kK l b).2)) 1]):=by
 refine pci aw Tryz.func250 (λw0 base=>?_);simp;refine ag.pure (G9 l b hl hs hb) ab ?_;rw[<-AW];generalize iY l b=Q;obtain⟨x,y,ok⟩:=Q;simp
noncomputable def GB(d:Doc)(rev:Int):Int:=if aD d<rev then 2 else if rev<d.fr then 3 else 0
theorem IR(d:Doc)(rev:Int):ar Tryz.prog 238 [.agg d.row,.c (vi rev)] (.one (.c (vi (GB d rev)) 1)):=by
 refine pci aw Tryz.func238 (λw0 base=>?_);simp[Doc.row];intro b;refine ag.pure (cP d) bB ?_;unfold GB;by_cases c1:aD d<rev
 ·simp[c1]
 ·by_cases c2:rev<d.fr
  ·simp[c1,c2]
  ·simp[c1,c2]
open Classical in
noncomputable def mi(d:Doc)(rev:Int):List (List Part)×Bool:=if bV d/\d.fr<=rev/\rev<=aD d then((d.list.drop (rev-d.fr).toNat).map Entry.o,true)else([],false)
theorem xC{d:Doc}{rev:Int}(h:¬(bV d/\d.fr<=rev/\rev<=aD d)):mi d rev=([],false):=by unfold mi;rw[aq h]
theorem mZ{d:Doc}{rev:Int}(h:bV d/\d.fr<=rev/\rev<=aD d):mi d rev=((d.list.drop (rev-d.fr).toNat).map Entry.o,true):=by unfold mi;rw[an h]
theorem zO{α:Type}{f:α->Nat}:∀(l:List α) (k:Nat),cK f (l.drop k)<=cK f l
 | [],k=>ab
 |a::l,0=>ab
 |a::l,k+1=>by have:=zO (f:=f) l k;simp only[List.drop_succ_cons,cK];omega
theorem vB{α:Type}{f:α->Nat}{l:List α}{k B:Nat}(h:nL f l<=B):nL f (l.drop k)<=B:=by
 have:=zO (f:=f) l k;unfold nL at *;simp only[iq];omega
theorem lR{l:List Entry}{k:Nat}(_h:k<=l.length):cut (l.map Entry.row) k (l.length-k)=(l.drop k).map Entry.row:=by
 unfold cut
 split
 ·rename_i h1
  rw[h1.1];simp
 ·rw[<-mz,aB ab]
theorem AK(d:Doc)(hl:cN d<=2^30)(rev:Int):ar Tryz.prog 258 [.agg d.row,.c (vi rev)] (.tup [.c (.s ((mi d rev).1.map iX)) 1,.c (.v (.bool (mi d rev).2)) 1]):=by
 refine pci aw Tryz.func258 (λw0 base=>?_);obtain⟨n1,n2,n3,n4⟩:=eB hl;simp[Doc.row];intro b2;refine aY.quiet eok mix al ?_;simp;refine⟨_,_,jq d hl,bB,?_⟩;by_cases c1:bV d
 rotate_left
 ·exact LS
 simp[c1];refine⟨_,_,cP d,bB,?_⟩;simp;refine⟨_,_,bZ rev d.fr (aD d),ab,?_⟩;by_cases c2:d.fr<=rev/\rev<=aD d
 rotate_left
 ·exact LR
 have e:=mZ ⟨c1,c2⟩;have hh:=dt c1;obtain⟨k,hk⟩:∃k:Nat,rev-d.fr=k:=⟨(rev-d.fr).toNat,aa⟩;have hkl:k<=d.list.length:=aa;have ew:Go.IntKind.i64.wrap (rev-d.fr)=(k:Int):=by rw[ae _ aa];omega
 rw[hk]at e;simp only[cV]at e;simp[c2,ew,hkl,lR hkl];refine ag.pure (FA (d.list.drop k) (vB n1)) ab ?_;simp[e];intro row h;have:=a8 h;exact y9
theorem zT(d:Doc)(hl:cN d<=2^30)(rev:Int):ar Tryz.prog 249 [.agg d.row,.c (vi rev)] (.tup [.c (.s ((mi d rev).1.map iX)) 1,.c (.v (.bool (mi d rev).2)) 1]):=by
 refine pci aw Tryz.func249 (λw0 base=>?_);obtain⟨n1,n2,n3,n4⟩:=eB hl;simp[Doc.row];intro b2;refine aY.quiet eok mix al ?_;simp;refine⟨_,_,ji d hl,bB,?_⟩;by_cases c1:bV d
 rotate_left
 ·exact LS
 simp[c1];refine⟨_,_,cO d,bB,?_⟩;simp;refine⟨_,_,cS rev d.fr (aD d),ab,?_⟩;by_cases c2:d.fr<=rev/\rev<=aD d
 rotate_left
 ·exact LR
 have e:=mZ ⟨c1,c2⟩;have hh:=dt c1;obtain⟨k,hk⟩:∃k:Nat,rev-d.fr=k:=⟨(rev-d.fr).toNat,aa⟩;have hkl:k<=d.list.length:=aa;have ew:Go.IntKind.i64.wrap (rev-d.fr)=(k:Int):=by rw[ae _ aa];omega
 rw[hk]at e;simp only[cV]at e;simp[c2,ew,hkl,lR hkl];intro b21;obtain⟨l,hl'⟩:∃l,d.list.drop k=l:=⟨_,rfl⟩;have hn:nL aZ l<=2^30:=hl' ▸ vB n1;have hll:d.list.length-k=l.length:=by rw[<-hl'];simp
 have hle:=aS hn;rw[hl']at e;simp only[<-mz,hl',hll];refine aE eok (λx:Nat×Hd=>x.1<=l.length) (λx=>⟨42,0,[(30,.v (.int .i64 x.1)),(29,.v (.int .i64 l.length)),(28,.ro (l.map Entry.row)),(6,.sl 336 x.2 1 0 x.1)],[(336,.rows x.2 1 (((l.take x.1).map Entry.o).map iX) true)]⟩) (λx=>l.length-x.1) (0,some (b21,0,0)) ab ab (λx hx=>Ent.refl ?_);obtain⟨i,H⟩:=x;simp only at hx⊢;by_cases hlt:i<l.length
 ·have hm:=cT hn hlt
  unfold aZ at hm;simp[hlt,Entry.row];intro b5;refine ag.pure (wL l[i].o hm) ab ?_;exact NL
 ·have e2:l.length=i:=by omega
  simp[hlt,e];have e1:i<=min i l.length:=aa;refine⟨e1,?_,?_⟩
  ·intro row hr
   have:=br hr;exact y9
  ·rw[aB aN]
   simp[cut,e2]
theorem A1(l:List Entry)(k:Nat):∀row∈List.drop k (List.map Entry.row l),row.length=3:=by
 intro row h;have:=a8 h;exact y9
open Classical in
theorem Dd{d:Doc}{rev:Int}(h:¬bV d):lA d rev=([],1):=by unfold lA;rw[aq h]
theorem AZ{d:Doc}{rev:Int}(h:bV d):lA d rev=if aD d<rev then([],2)else if rev<d.fr then([],3)else(d.list.drop (rev-d.fr).toNat,0):=by unfold lA;rw[an h]
theorem Il(d:Doc)(hl:cN d<=2^30)(rev:Int):ar Tryz.prog 201 [.agg d.row,.c (vi rev)] (.tup [.c (.s ((lA d rev).1.map Entry.row)) 3,.c (vi (lA d rev).2) 1]):=by
 refine pci aw Tryz.func201 (λw0 base=>?_);obtain⟨n1,n2,n3,n4⟩:=eB hl;simp[Doc.row];intro b2;refine ag.pure (jq d hl) bB ?_;by_cases c1:bV d
 rotate_left
 ·simp[az c1,Dd c1]
 have e:=AZ (rev:=rev) c1;simp[c1];refine ag.pure (IR d rev) bB ?_;unfold GB;by_cases c2:aD d<rev
 ·simp[c2,e]
 by_cases c3:rev<d.fr
 ·simp[c2,c3,e]
 have hh:=dt c1;obtain⟨k,hk⟩:∃k:Nat,rev-d.fr=k:=⟨(rev-d.fr).toNat,aa⟩;have hkl:k<=d.list.length:=aa;have ew:Go.IntKind.i64.wrap (rev-d.fr)=(k:Int):=by rw[ae _ aa];omega
 simp only[c2,c3,dv,hk,cV]at e;simp[c2,c3,ew,hkl,lR hkl];refine ag.pure (jW (d.list.drop k) (vB n1)) ab ?_;simp[e];exact A1 _ _
theorem Hf(d:Doc)(hl:cN d<=2^30)(rev:Int):ar Tryz.prog 174 [.agg d.row,.c (vi rev)] (.tup [.c (.s ((lA d rev).1.map Entry.row)) 3,.c (vi (lA d rev).2) 1]):=by
 refine pci aw Tryz.func174 (λw0 base=>?_);obtain⟨n1,n2,n3,n4⟩:=eB hl;simp[Doc.row];intro b2;refine ag.pure (ji d hl) bB ?_;by_cases c1:bV d
 rotate_left
 ·simp[az c1,Dd c1]
 have e:=AZ (rev:=rev) c1;simp[c1];refine ag.pure (cO d) bB ?_;by_cases c2:aD d<rev
 ·simp[c2,e]
 by_cases c3:rev<d.fr
 ·simp[c2,c3,e]
 have hh:=dt c1;obtain⟨k,hk⟩:∃k:Nat,rev-d.fr=k:=⟨(rev-d.fr).toNat,aa⟩;have hkl:k<=d.list.length:=aa;have ew:Go.IntKind.i64.wrap (rev-d.fr)=(k:Int):=by rw[ae _ aa];omega
 simp only[c2,c3,dv,hk,cV]at e;simp[c2,c3,ew,hkl,lR hkl];refine ag.pure (gM (d.list.drop k) (vB n1)) ab ?_;simp[e];exact A1 _ _
theorem nu(d:Doc)(hl:cN d<=2^30):ar Tryz.prog 173 [.agg d.row] (.one (.c (.s ((fe d).map aG)) 1)):=by
 refine pci aw Tryz.func173 (λw0 base=>?_);simp[Doc.row];intro b2;refine drw eok mix [0,1] [2,3,4,5,6,7,8] (.c 2 2 1 2 (.c 2 3 2 0 (.c 2 4 0 0 (.c 2 5 0 0 (.c 2 6 0 0 (.c 2 7 0 0 (.c 2 8 0 0 (.l 2 0) .s) .s) .s) .s) .s) .s) .s) ?_;simp
 try intros
 refine ag.pure (cO d) bB ?_;simp
 try intros
 refine ag.pure (vm d hl (aD d)) bB ?_;simp
 try intros
 simp[fe]
theorem rF(d:Doc)(hl:cN d<=2^30):ar Tryz.prog 200 [.agg d.row] (.one (.c (.s ((fe d).map aG)) 1)):=by
 refine pci aw Tryz.func200 (λw0 base=>?_);simp[Doc.row];intro b2;refine drw eok mix [0,1] [2,3,4,5,6,7,8] (.c 2 2 1 2 (.c 2 3 2 0 (.c 2 4 0 0 (.c 2 5 0 0 (.c 2 6 0 0 (.c 2 7 0 0 (.c 2 8 0 0 (.l 2 0) .s) .s) .s) .s) .s) .s) .s) ?_;simp
 try intros
 refine ag.pure (cP d) bB ?_;simp
 try intros
 refine ag.pure (vK d hl (aD d)) bB ?_;simp
 try intros
 simp[fe]
theorem AU{d:Doc}{base:Int}{o:List Part}(h:¬(bV d/\dH o)):eY d base o=([],1):=by unfold eY;rw[aq h]
theorem xQ{d:Doc}{base:Int}{o:List Part}(h:bV d/\dH o):eY d base o=if aD d<base then([],2)else if base<d.fr then([],3)else
 if db o=(ir d base).1.length then
  if(kK ((d.list.drop (base-d.fr).toNat).map Entry.o) o).2=true then((kK ((d.list.drop (base-d.fr).toNat).map Entry.o) o).1,0)else([],5)
 else([],1):=by unfold eY;rw[an h]
theorem FU(d:Doc)(hl:cN d<=2^30)(base:Int)(o:List Part)(ho:nL bc o<=2^40):ar Tryz.prog 235 [.agg d.row,.c (vi base),.c (.s (o.map Part.row))] (.tup [.c (.s ((eY d base o).1.map Part.row)) 3,.c (vi (eY d base o).2) 1]):=by
 refine pci aw Tryz.func235 (λw0 bs=>?_);obtain⟨n1,n2,n3,n4⟩:=eB hl;simp[Doc.row];intro b3;refine ag.pure (jq d hl) bB ?_;by_cases c1:bV d
 rotate_left
 ·exact LL
 simp[c1];refine ag.pure (hU o ho) ab ?_;by_cases c2:dH o
 rotate_left
 ·exact LK
 have e:=xQ (base:=base) ⟨c1,c2⟩;simp[c2];refine ag.pure (IR d base) bB ?_;unfold GB;by_cases c3:aD d<base
 ·simp[c3,e]
 by_cases c4:base<d.fr
 ·simp[c3,c4,e]
 have hh:=dt c1;have c5:bV d/\d.fr<=base/\base<=aD d:=⟨c1,aa,aa⟩;have hops:=mZ c5;simp only[c3,c4,dv]at e;simp[c3,c4];refine ag.pure (vK d hl base) bB ?_;generalize ir d base=T at e⊢;obtain⟨t,ok⟩:=T;simp only at e⊢;simp;intro H1;refine ag.pure (lz o ho) ab ?_;by_cases c6:db o=t.length
 rotate_left
 ·simp only[c6,dv]at e
  simp[c6,e]
 simp only[c6,du]at e;simp[c6];refine ag.pure (AK d hl base) bB ?_;rw[hops];generalize hL:(d.list.drop (base-d.fr).toNat)=L at e⊢;have hL1:L.length<=d.list.length:=by rw[<-hL];simp
 have hle:=aS n1
 have hs:∀q∈L.map Entry.o,nL bc q<=2^40:=λq hq=>by
  exact Mx
 simp;intro H2;refine ag.pure (J4 (L.map Entry.o) o aN hs ho) ab ?_;generalize kK (L.map Entry.o) o=P at e⊢;obtain⟨v,ok2⟩:=P;simp only at e⊢
 cases ok2 with
 |false=>simp at e;simp[e]
 |true=>simp at e;simp[e]
theorem Ff(d:Doc)(hl:cN d<=2^30)(base:Int)(o:List Part)(ho:nL bc o<=2^40):ar Tryz.prog 221 [.agg d.row,.c (vi base),.c (.s (o.map Part.row))] (.tup [.c (.s ((eY d base o).1.map Part.row)) 3,.c (vi (eY d base o).2) 1]):=by
 refine pci aw Tryz.func221 (λw0 bs=>?_);obtain⟨n1,n2,n3,n4⟩:=eB hl;simp[Doc.row];intro b3;refine ag.pure (ji d hl) bB ?_;by_cases c1:bV d
 rotate_left
 ·exact LL
 simp[c1];refine ag.pure (gX o ho) ab ?_;by_cases c2:dH o
 rotate_left
 ·exact LK
 have e:=xQ (base:=base) ⟨c1,c2⟩;simp[c2];refine ag.pure (cO d) bB ?_;by_cases c3:aD d<base
 ·simp[c3,e]
 by_cases c4:base<d.fr
 ·simp[c3,c4,e]
 have hh:=dt c1;have c5:bV d/\d.fr<=base/\base<=aD d:=⟨c1,aa,aa⟩;have hops:=mZ c5;have hfit:=vS (o:=o) c1 c2 c5.2.1 c5.2.2;simp only[c3,c4,dv]at e;simp[c3,c4];refine ag.pure (vm d hl base) bB ?_;generalize ir d base=T at e hfit⊢;obtain⟨t,ok⟩:=T;simp only at e hfit⊢;simp;intro H1;refine ag.pure (ld o ho) ab ?_;by_cases c6:db o=t.length
 rotate_left
 ·simp only[c6,dv]at e
  simp[c6,e]
 simp only[c6,du,true_implies]at e hfit;simp[c6];refine ag.pure (zT d hl base) bB ?_;rw[hops];generalize hL:(d.list.drop (base-d.fr).toNat)=L at e hfit⊢;have hL1:L.length<=d.list.length:=by rw[<-hL];simp
 have hle:=aS n1
 have hs:∀q∈L.map Entry.o,nL bc q<=2^40:=λq hq=>by
  exact Mx
 have hpn:=Pg (L.map Entry.o) o;simp;intro H2;refine ag.pure (Jo (L.map Entry.o) o aN hs ho) ab ?_;generalize kK (L.map Entry.o) o=P at e hfit hpn⊢;obtain⟨v,ok2⟩:=P;simp only at e hfit hpn⊢
 cases ok2 with
 |false=>simp at e;simp[e]
 | true =>
   have hf:=hfit rfl;have ht:=hf.2.1.1;simp at e;simp[e];intro H3;refine ag.pure (nu d hl) bB ?_;simp;intro H4;refine ag.pure (mf v (fe d) aa aa) ab ?_;have ha:=nm.2 hf;generalize apply v (fe d)=A at ha⊢;obtain⟨u,ok3⟩:=A;simp only at ha;subst ha;simp
end Go.Proofs.YtklblkobegcljaaGreat
namespace Go.AM
open Go.RowKit
def XU(w:World)(s:Value)(n sz:Nat)(us:List Value)(ob:Option Nat):Prop:=
 (n=0/\ob=none/\∃a,s=.slice a 0 0)\/∃b o C cs T,ob=some b/\s=.slice (some ⟨b,o,none⟩) n C/\w.heap[b]? = some (.cells cs T (0,0))/\n<=C/\C<=maxLen/\o+C*sz<=cs.size /\
  (∀j,j<n*sz->cs.getD (o+j) undef=us.getD j undef)/\∀v∈us,v.oneCell'=true
structure Placed(w w':World)(ob:Option Nat)(nb no nC n sz:Nat)(us:List Value):Prop where
 at_:∃cs T,w'.heap[nb]? = some (.cells cs T (0,0))/\no+nC*sz<=cs.size/\∀j,j<n*sz->cs.getD (no+j) undef=us.getD j undef
 le:n<=nC
 cap:nC<=maxLen
 size:w.heap.size<=w'.heap.size
 same:Same w w'
 blk:w.heap.size<=nb\/ob=some nb
 frame:∀c,c<w.heap.size->c≠nb->w'.heap[c]? = w.heap[c]?
def zB(P:Program)(f sz bytes:Nat):Prop:=xj P f/\∀(w:World) (us xs:List Value) (n i:Nat) (s v:Value) (ob bv:Option Nat),us.length=n*sz->xs.length=sz->i<=n->(n+1)*bytes<=140737488355328 ->
 XU w s n sz us ob->XU w v 1 sz xs bv->(∀b,ob=some b->bv≠some b) ->
 Calls P f #[s,.int .i64 i,v] w λe w'=>∃nb no nC,e=.returned (.slice (some ⟨nb,no,none⟩) (n+1) nC)/\Placed w w' ob nb no nC (n+1) sz (us.take (i*sz)++xs++us.drop (i*sz))
def Pz(P:Program)(f sz:Nat):Prop:=xj P f/\∀(w:World) (us:List Value) (n i:Nat) (s:Value) (ob:Option Nat),us.length=n*sz->i<n->XU w s n sz us ob ->
 Calls P f #[s,.int .i64 i,.int .i64 ((i:Int)+1)] w λe w'=>∃nb no nC,ob=some nb/\e=.returned (.slice (some ⟨nb,no,none⟩) (n-1) nC)/\Placed w w' ob nb no nC (n-1) sz (us.take (i*sz)++us.drop ((i+1)*sz))
theorem Fp{w:World}{M E:Nat->Prop}{H:Hd}{sz:Nat}{rows:List (List CD)}{own:Bool}(ho:fv w M E (.rows H sz rows own)){s:Value}(hs:SlV H sz 0 rows.length s) :
 ∃ us : List Value, us.length = rows.length * sz /\ XU w s rows.length sz us (AObj.blk (.rows H sz rows own)) /\
   ∃ F : Nat -> Nat -> Nat -> Prop, (∀ i j c, F i j c -> (own = true -> E c) /\ ¬ M c) /\ (own = true -> ∀ i j i' j' c, F i j c -> F i' j' c -> i = i' /\ j = j') /\ (∀ row ∈ rows, row.length = sz) /\
     (∀i j row d,rows[i]? = some row->row[j]? = some d->Rd w own (F i j) (us.getD (i*sz+j) undef) d):=by
 cases H with
 | none =>
   obtain⟨⟨a,rfl⟩,h0⟩:=hs;have hr:rows=[]:=ho;subst hr;exact⟨[],ab,.inl ⟨rfl,rfl,a,rfl⟩,λ_ _ _=>False,ab,ab,ab,ab⟩
 | some q =>
   obtain⟨b,o,C⟩:=q;obtain⟨cs,T,F,hb,hl,hC,hsz,hfit,hrl,hF,hd,hr⟩:=ho;rcases hs with⟨rfl,hle⟩|⟨-,h0,-⟩
   ·have hmm:rows.length*sz<=C*sz:=ao _ hl
    have lt:∀i j,i<rows.length->j<sz->i*sz+j<rows.length*sz:=by
     exact Li
    have hg:∀j,j<rows.length*sz->((List.range (rows.length*sz)).map λj=>cs.getD (o+j) undef).getD j undef=cs.getD (o+j) undef:=by
     intro j hj;simp[hj]
    refine⟨(List.range (rows.length*sz)).map λj=>cs.getD (o+j) undef,ab,.inr ⟨b,o,C,cs,T,rfl,ab,hb,hl,hC,hfit,λj hj=>(hg j hj).symm,?_⟩,F,hF,hd,hrl,?_⟩
    ·intro v hv
     simp only[cE,fw]at hv;obtain⟨j,hj,rfl⟩:=hv;have hi:j / sz<rows.length:=(zC hsz).2 hj;have hjj:j % sz<sz:=GU _ hsz;have:=hr (j / sz) (j % sz) _ _ (aj hi) (aj (by rw[hrl _ (ak hi)];exact hjj));have e:j / sz*sz+j % sz=j:=by rw[Jc];exact RE j sz
     rw[e]at this;exact Jx this
    ·intro i j row d hi hj
     have h1:i<rows.length:=(au.1 hi).1;have h2:j<sz:=u9;rw[hg _ (lt i j h1 h2)];exact hr i j row d hi hj
   ·omega
theorem Rep.place{w0:World}{base:Bs}{st:ASt}{a:Act}{w w':World}(hR:Rep w0 base st a w){h':AH}{E':Nat->Nat->Prop}(H':HRel base h' w E')(tr:Tr st.h.M w h'.M w){k:Nat}{ob:Option Nat}(hob:(h'.get k).blk=ob)
 {nb no nC sz:Nat}{us:List Value}{rows:List (List CD)}(own:Bool) (hp:Placed w w' ob nb no nC rows.length sz us) (hsz:0<sz) (hrl:∀row∈rows,row.length=sz) (F:Nat->Nat->Nat->Prop)
 (hr:∀i j row d,rows[i]? = some row->row[j]? = some d->Rd w own (F i j) (us.getD (i*sz+j) undef) d) (hF:∀i j c,F i j c->¬h'.M c)
 (hown:own=true->∀i j c,F i j c->¬base.G c/\∀q,q≠k->¬E' q c) (hinj:own=true->∀i j i' j' c,F i j c->F i' j' c->i=i'/\j=j') :
 Moved w0 base st a w ((k,.rows (some (nb,no,nC)) sz rows own)::h') w':=by
 obtain⟨cs,T,hb,hfit,hcs⟩:=hp.at_
 have hnb:∀c,c<w.heap.size->c=nb->(h'.get k).blk=some c:=by
  intro c hc e;subst e;rcases hp.blk with h|h
  ·omega
  ·rw[hob];exact h
 have hfr:∀c,c<w.heap.size->(¬h'.M c\/∃j,j≠k/\(h'.get j).blk=some c)->w'.heap[c]? = w.heap[c]?:=by
  intro c hc h;refine hp.frame c hc (λe=>?_);have hk:=hnb c hc e;rcases h with h|⟨j,hne,hj⟩
  ·exact h ⟨k,hk⟩
  ·exact hne (H'.inj _ _ _ hj hk)
 have t:Tr h'.M w (AH.M ((k,.rows (some (nb,no,nC)) sz rows own)::h')) w':=Tr.upd H' hp.size (λc hc hM=>hfr c hc (.inl hM)) (λc hc=>by
  simp[AObj.blk]at hc;subst hc;rcases hp.blk with h|h
  ·exact .inl h
  ·exact .inr (by rw[hob];exact h))
 have lt:∀i j,i<rows.length->j<sz->i*sz+j<rows.length*sz:=by
  exact Li
 refine(hR.move H' tr ⟨rfl,rfl,rfl⟩).move (H'.upd (Ek:=λc=>own=true/\c<w.heap.size/\∃i j,F i j c) hp.size hfr (λc hc=>?_)
  ⟨cs,T,λi j c=>c<w.heap.size/\F i j c,hb,hp.le,hp.cap,hsz,hfit,hrl,?_,?_,?_⟩ ?_) t hp.same
 ·simp[AObj.blk]at hc
  subst hc;rcases hp.blk with h|h
  ·exact⟨hR.newer h,.inl h⟩
  ·have hk:(h'.get k).blk=some nb:=by rw[hob];exact h
   exact⟨H'.low k _ hk,.inr hk⟩
 ·rintro i j c ⟨hlt,hc⟩
  exact⟨λho=>⟨ho,hlt,i,j,hc⟩,λhM=>hF i j c hc (t.mono c hlt hM)⟩
 ·rintro ho i j i' j' c ⟨-,hc⟩ ⟨-,hc'⟩
  exact hinj ho i j i' j' c hc hc'
 ·intro i j row d hi hj
  have h1:i<rows.length:=(au.1 hi).1;have h2:j<sz:=u9;rw[hcs _ (lt i j h1 h2)];exact(hr i j row d hi hj).map (λc hc hl=>hfr c hl (.inl (hF i j c hc))) (λc hc hl=>⟨hl,hc⟩)
 ·rintro c ⟨ho,hlt,i,j,hc⟩
  obtain⟨h1,h2⟩:=hown ho i j c hc;exact⟨h1,cg hlt hp.size,h2,λhM=>hF i j c hc (t.mono c hlt hM)⟩
theorem WU{us xs:List Value}{n i sz:Nat}(hu:us.length=n*sz)(hx:xs.length=sz)(hi:i<=n)(r j:Nat)(_hr:r<n+1)(hj:j<sz) :
 (us.take (i*sz)++xs++us.drop (i*sz)).getD (r*sz+j) undef=if r<i then us.getD (r*sz+j) undef else if r=i then xs.getD j undef else us.getD ((r-1)*sz+j) undef:=by
 have h1:i*sz<=n*sz:=ao _ hi;have hl:(us.take (i*sz)).length=i*sz:=aN;simp only[aL];rw[cj];by_cases c1:r<i
 ·have h2:(r+1)*sz<=i*sz:=ao _ c1
  rw[bD]at h2;rw[an c1,cq aa,cA,an aa]
 ·have h2:i*sz<=r*sz:=ao _ aa
  rw[aq c1,a9 aa,hl];by_cases c2:r=i
  ·subst c2
   rw[an rfl,cq aa]
   congr 2
   omega
  ·have h3:(i+1)*sz<=r*sz:=ao _ aa
   have h4:r*sz=(r-1)*sz+sz:=by rw[<-bD];congr 1;omega
   rw[bD]at h3;rw[aq c2,a9 aa,hx,dA]
   congr 2
   omega
theorem gS{E:Env}{f sz bytes:Nat}(hc:zB E.P f sz bytes)(hz:0<sz){st:ASt}{dst:Option Nat}{K:ASt->Prop}{k kv:Nat}{H Hv:Hd}{rows:List (List CD)}{row:List CD}{own ownv:Bool}{i n:Nat}(hn:rows.length=n)
 (hk:st.h.get k=.rows H sz rows own) (hkv:st.h.get kv=.rows Hv sz [row] ownv) (hne:k≠kv) (hi:i<=rows.length) (hb:(rows.length+1)*bytes<=140737488355328)
 (h:∀H',bQ { st with h:=(k,.rows H' sz (rows.take i++row::rows.drop i) (own&&ownv))::(kv,.dead)::st.h } dst (.sl k H' sz 0 (n+1)) K) :
 ag E f [.sl k H sz 0 n,.v (.int .i64 i),.sl kv Hv sz 0 1] st dst K:=by
 subst hn;refine⟨hc.1,λa w hR xs hxs hargs=>?_⟩
 obtain⟨s,iv,v,rfl⟩:∃s iv v,xs = #[s,iv,v]:=by
  obtain⟨l⟩:=xs
  match l,hxs with
  | [s,iv,v],_=>exact⟨s,iv,v,rfl⟩
 have e0:=hargs 0 _ rfl;have e1:=hargs 1 _ rfl;have e2:=hargs 2 _ rfl;simp at e0 e1 e2
 cases e0 with|sl _ _ _ _ _ _ hs0=>
 cases e1 with|v _ _=>
 cases e2 with|sl _ _ _ _ _ _ hs2=>
 obtain⟨E0,H0⟩:=hR.heap;have ho:=H0.obj k;have hov:=H0.obj kv;rw[hk]at ho;rw[hkv]at hov;obtain⟨us,hul,hsa,F,hF,hd,hrl,hr⟩:=Fp ho hs0;obtain⟨vs,hvl,hsv,Fv,hFv,hdv,hrlv,hrv⟩:=Fp hov hs2;simp at hvl
 have hap:∀b,AObj.blk (.rows H sz rows own)=some b->AObj.blk (.rows Hv sz [row] ownv)≠some b:=by
  intro b h1 h2;exact hne (H0.inj k kv b (by rw[hk];exact h1) (by rw[hkv];exact h2))
 refine(hc.2 w us vs rows.length i s v _ _ hul hvl hi hb hsa hsv hap).mono ?_
 rintro e w' ⟨nb,no,nC,rfl,hp⟩
 have hlen:(rows.take i++row::rows.drop i).length=rows.length+1:=aN;rw[<-hlen]at hp;have kill:=H0.kill kv;have hrow:row.length=sz:=hrlv row ab;have low:∀c,E0 k c\/E0 kv c->¬E.base.G c:=λc hc=>hc.elim (λh=>(H0.elow k c h).1) (λh=>(H0.elow kv c h).1)
 have getr:∀r q,(rows.take i++row::rows.drop i)[r]? = some q->(r<i/\rows[r]? = some q)\/(r=i/\q=row)\/(i<r/\rows[r-1]? = some q):=by
  intro r q hq;have hti:(rows.take i).length=i:=aN;by_cases c1:r<i
  ·rw[cq aa,cA,an c1]at hq
   exact .inl ⟨c1,hq⟩
  ·rw[a9 aa,hti]at hq
   by_cases c2:r=i
   ·subst c2;simp at hq;exact .inr (.inl ⟨rfl,hq.symm⟩)
   ·obtain⟨m,hm⟩:∃m,r-i=m+1:=⟨r-i-1,aa⟩
    rw[hm,gB,dA]at hq;refine .inr (.inr ⟨aa,?_⟩);rw[show r-1=i+m from aa];exact hq
 have tk:Tr st.h.M w (AH.M ((kv,.dead)::st.h)) w:=Tr.kill H0 kv;have blkk:(AH.get ((kv,.dead)::st.h) k).blk=AObj.blk (.rows H sz rows own):=by rw[bH,aq hne,hk]
 have m:=hR.place kill tk blkk (own&&ownv) hp hz (by
  intro q hq;obtain⟨r,hr'⟩:=en hq;rcases getr r q hr' with⟨-,g⟩|⟨-,rfl⟩|⟨-,g⟩
  ·exact hrl q (aO g)
  ·exact hrow
  ·exact hrl q (aO g))
  (λr j c=>if r<i then F r j c else if r=i then Fv 0 j c else F (r-1) j c) ?_ ?_ ?_ ?_
 ·obtain⟨av,h',g1,g2,g3,g4⟩:=m.put (VRel.sl k (some (nb,no,nC)) sz 0 (rows.length+1) (.slice (some ⟨nb,no,none⟩) (rows.length+1) nC) (Or.inl ⟨ab,by have:=hp.le;omega⟩)) (h (some (nb,no,nC)))
  exact⟨_,av,h',rfl,g1,g2,g3,g4⟩
 ·intro r j q d hq hj
  have hjl:j<sz:=by
   rcases getr r q hq with⟨-,g⟩|⟨-,rfl⟩|⟨-,g⟩
   ·exact LQ
   ·rw[<-hrow];exact(au.1 hj).1
   ·exact LQ
  have hrlt:r<rows.length+1:=K9;rw[WU hul hvl hi r j hrlt hjl];rcases getr r q hq with⟨c,g⟩|⟨c,rfl⟩|⟨c,g⟩
  ·simp only[c,du]
   exact eJ _ (hr r j q d g hj) (λh=>od)
  ·have c1:¬r<i:=by omega
   simp only[aq c1,an c];have:=hrv 0 j q d rfl hj;rw[Nat.zero_mul,cQ]at this;exact eJ _ this (λh=>pS)
  ·have c1:¬r<i:=by omega
   have c2:¬r=i:=aa;simp only[c1,c2,dv];exact eJ _ (hr (r-1) j q d g hj) (λh=>od)
 ·intro r j c hcc hM
  have hM':=GO hM
  split at hcc
  ·exact(hF _ _ _ hcc).2 hM'
  ·split at hcc
   ·exact(hFv _ _ _ hcc).2 hM'
   ·exact(hF _ _ _ hcc).2 hM'
 ·intro hoo r j c hcc
  simp at hoo
  have hE:E0 k c\/E0 kv c:=by
   split at hcc
   ·exact .inl ((hF _ _ _ hcc).1 hoo.1)
   ·split at hcc
    ·exact .inr ((hFv _ _ _ hcc).1 hoo.2)
    ·exact .inl ((hF _ _ _ hcc).1 hoo.1)
  refine⟨low c hE,λq hq hqe=>?_⟩
  split at hqe
  ·exact hqe
  ·rename_i hqv
   rcases hE with hE|hE
   ·exact hq (H0.einj _ _ _ hqe hE)
   ·exact hqv (H0.einj _ _ _ hqe hE)
 ·intro hoo r j r' j' c hcc hcc'
  simp at hoo;have key:∀i j j',F i j c->Fv 0 j' c->False:=λi j j' h1 h2=>hne (H0.einj _ _ _ ((hF _ _ _ h1).1 hoo.1) ((hFv _ _ _ h2).1 hoo.2))
  split at hcc<;>split at hcc'
  ·exact hd hoo.1 _ _ _ _ c hcc hcc'
  ·split at hcc'
   ·exact(key _ _ _ hcc hcc').elim
   ·have:=hd hoo.1 _ _ _ _ c hcc hcc';omega
  ·split at hcc
   ·exact(key _ _ _ hcc' hcc).elim
   ·have:=hd hoo.1 _ _ _ _ c hcc hcc';omega
  ·split at hcc<;>split at hcc'
   ·have:=hdv hoo.2 _ _ _ _ c hcc hcc';omega
   ·exact(key _ _ _ hcc' hcc).elim
   ·exact(key _ _ _ hcc hcc').elim
   ·have:=hd hoo.1 _ _ _ _ c hcc hcc';omega
theorem Xm{us:List Value}{n i sz:Nat}(hu:us.length=n*sz)(hi:i<n)(r j:Nat)(_hr:r<n-1)(hj:j<sz) :
 (us.take (i*sz)++us.drop ((i+1)*sz)).getD (r*sz+j) undef=if r<i then us.getD (r*sz+j) undef else us.getD ((r+1)*sz+j) undef:=by
 have h1:i*sz<=n*sz:=ao _ aa;have hl:(us.take (i*sz)).length=i*sz:=aN;simp only[aL];by_cases c1:r<i
 ·have h2:(r+1)*sz<=i*sz:=ao _ c1
  rw[bD]at h2;rw[an c1,cq aa,cA,an aa]
 ·have h2:i*sz<=r*sz:=ao _ aa
  have h3:(i+1)*sz=i*sz+sz:=bD i sz;have h4:(r+1)*sz=r*sz+sz:=bD r sz;rw[aq c1,a9 aa,hl,dA]
  congr 2
  omega
theorem GR{E:Env}{f sz:Nat}(hc:Pz E.P f sz)(hz:0<sz){st:ASt}{dst:Option Nat}{K:ASt->Prop}{k:Nat}{H:Hd}{rows:List (List CD)}{own:Bool}{i n:Nat}(hn:rows.length=n)
 (hk:st.h.get k=.rows H sz rows own) (hi:i<rows.length)
 (h:∀H',bQ { st with h:=(k,.rows H' sz (rows.eraseIdx i) own)::st.h } dst (.sl k H' sz 0 (n-1)) K) :
 ag E f [.sl k H sz 0 n,.v (.int .i64 i),.v (.int .i64 ((i:Int)+1))] st dst K:=by
 subst hn;refine⟨hc.1,λa w hR xs hxs hargs=>?_⟩
 obtain⟨s,iv,jv,rfl⟩:∃s iv jv,xs = #[s,iv,jv]:=by
  obtain⟨l⟩:=xs
  match l,hxs with
  | [s,iv,jv],_=>exact⟨s,iv,jv,rfl⟩
 have e0:=hargs 0 _ rfl;have e1:=hargs 1 _ rfl;have e2:=hargs 2 _ rfl;simp at e0 e1 e2
 cases e0 with|sl _ _ _ _ _ _ hs0=>
 cases e1 with|v _ _=>
 cases e2 with|v _ _=>
 obtain⟨E0,H0⟩:=hR.heap;have ho:=H0.obj k;rw[hk]at ho;obtain⟨us,hul,hsa,F,hF,hd,hrl,hr⟩:=Fp ho hs0;refine(hc.2 w us rows.length i s _ hul hi hsa).mono ?_
 rintro e w' ⟨nb,no,nC,-,rfl,hp⟩
 have hlen:(rows.eraseIdx i).length=rows.length-1:=by rw[List.length_eraseIdx,an hi]
 rw[<-hlen]at hp
 have getr:∀r q,(rows.eraseIdx i)[r]? = some q->(r<i/\rows[r]? = some q)\/(i<=r/\rows[r+1]? = some q):=by
  intro r q hq;rw[List.getElem?_eraseIdx]at hq
  split at hq
  ·rename_i c;exact .inl ⟨c,hq⟩
  ·rename_i c;exact .inr ⟨aa,hq⟩
 have m:=hR.place H0 (Tr.refl _ _) (by rw[hk]) own hp hz (λq hq=>hrl q (List.mem_of_mem_eraseIdx hq))
  (λr j c=>if r<i then F r j c else F (r+1) j c) ?_ ?_ ?_ ?_
 ·obtain⟨av,h',g1,g2,g3,g4⟩:=m.put (VRel.sl k (some (nb,no,nC)) sz 0 (rows.length-1) (.slice (some ⟨nb,no,none⟩) (rows.length-1) nC) (Or.inl ⟨ab,by have:=hp.le;omega⟩)) (h (some (nb,no,nC)))
  exact⟨_,av,h',rfl,g1,g2,g3,g4⟩
 ·intro r j q d hq hj
  have hqm:=List.mem_of_mem_eraseIdx (aO hq);have hjl:j<sz:=by rw[<-hrl q hqm];exact(au.1 hj).1
  have hrlt:r<rows.length-1:=K9;rw[Xm hul hi r j hrlt hjl];rcases getr r q hq with⟨c,g⟩|⟨c,g⟩
  ·rw[an c]
   simp only[c,du];exact hr r j q d g hj
  ·have c1:¬r<i:=by omega
   rw[aq c1];simp only[c1,dv];exact hr (r+1) j q d g hj
 ·intro r j c hcc hM
  split at hcc
  ·exact(hF _ _ _ hcc).2 hM
  ·exact(hF _ _ _ hcc).2 hM
 ·intro hoo r j c hcc
  have hE:E0 k c:=by
   split at hcc
   ·exact(hF _ _ _ hcc).1 hoo
   ·exact(hF _ _ _ hcc).1 hoo
  exact⟨(H0.elow k c hE).1,λq hq hqe=>hq (H0.einj _ _ _ hqe hE)⟩
 ·intro hoo r j r' j' c hcc hcc'
  split at hcc<;>split at hcc'
  ·exact hd hoo _ _ _ _ c hcc hcc'
  ·have:=hd hoo _ _ _ _ c hcc hcc';omega
  ·have:=hd hoo _ _ _ _ c hcc hcc';omega
  ·have:=hd hoo _ _ _ _ c hcc hcc';omega
theorem gC{P:Program}{w:World}{t ty e:TypeId}{i:TypeInfo}(hu:P.underlying t=some (.slice e))(hi:P.info? e=some i){b o dl dc sl sc:Nat}{cs:Array Value}{T:TypeId}
 (hb:w.heap[b]? = some (.cells cs T (0,0))) (a:Addr) (vs:List Value) (m:Nat) (hm:Nat.min sl dl=m) (hl:vs.length=m*i.size) (hvs:∀j v,vs[j]? = some v->w.cell? (a.add j)=some v) (h1:∀v∈vs,v.oneCell'=true)
 (hfit:o+vs.length<=cs.size) :
 (Builtin.copy_ #[t,t] ty #[.slice (some ⟨b,o,none⟩) dl dc,.slice (some a) sl sc]).run P w=.ok (goInt m) (w.setRow b (cs.toList.take o++vs++cs.toList.drop (o+vs.length)).toArray):=by
 have hf:=mF (P:=P) w i.size m a sl sc vs hl hvs;have hst:=wm (P:=P) b o T vs 0 cs w hb aa h1;simp only[nS]at hst;simp[Builtin.copy_,bj hu,eh hi,Builtin.lenOf,hm,hf,hst]
theorem fF{w:World}{b o:Nat}{cs:Array Value}{T:TypeId}(hb:w.heap[b]? = some (.cells cs T (0,0))){vs:List Value}(h:∀j,j<vs.length->cs.getD (o+j) undef=vs.getD j undef)(hfit:o+vs.length<=cs.size) :
 ∀j v,vs[j]? = some v->w.cell? ⟨b,o+j,none⟩=some v:=by
 intro j v hj;obtain⟨hlt,rfl⟩:=au.1 hj;have:=h j hlt;rw[show vs.getD j undef=vs[j] by simp[hlt]]at this;rw[<-this]
 simpa using tv hb (show o+j<cs.size from aa)
theorem Dw(w:World){P:Program}{o:Oper}{a:Act}{K:Act->World->Prop}{Q:Exit->Act->World->Prop}(d s:Operand)(t t':TypeId)
 (ho:o.op=.call { callee:=.builtin .copy,args:=#[d,s],argTypes:=#[t,t'] }) (v u:Value) (hd:a.eval d=v) (hs:a.eval s=u) {v':Value}{w':World}
 (hr:(Builtin.copy_ #[t,t'] o.type #[v,u]).run P w=.ok v' w') (h:K (a.put o.dst v') w'):o.wp P a w K Q:=by
 unfold Oper.wp execOp;simp only[ho,resolve,invoke,builtin,ff,fN,cZ,List.map_toArray,bL,jP,hd,hs,hr];exact h
theorem lI(w:World){P:Program}{ops:Array Oper}{rest:List Oper}{o:Oper}{a:Act}{Q:Exit->Act->World->Prop}(hgd:o.guard=none)(d s:Operand)(t t':TypeId)
 (ho:o.op=.call { callee:=.builtin .copy,args:=#[d,s],argTypes:=#[t,t'] }) (v u:Value) (hd:a.eval d=v) (hs:a.eval s=u) {v':Value}{w':World}
 (hr:(Builtin.copy_ #[t,t'] o.type #[v,u]).run P w=.ok v' w') (h:wpList P ops Q rest (a.put o.dst v') w'):wpList P ops Q (o::rest) a w:=
 wpList_plain hgd λ_ hK=>Dw w d s t t' ho v u hd hs hr (hK _ _ h)
end Go.AM
namespace Go.Proofs.YtklblkobegcljaaGreat
open Go.AM Go.RowKit
set_option maxRecDepth 100000
set_option maxHeartbeats 4000000
set_option linter.unusedVariables false
set_option linter.unusedSimpArgs false
theorem BW(w:World)(us xs:List Value)(n i b o C bv ov Cv:Nat)(cs cv:Array Value)(T Tv:TypeId)(hul:us.length=n*3)(hxl:xs.length=3)(hi:i<n)(hroom:n+1<=C)(hC:C<=maxLen)
 (hb:w.heap[b]? = some (.cells cs T (0,0))) (hfit:o+C*3<=cs.size) (hcs:∀j,j<n*3->cs.getD (o+j) undef=us.getD j undef) (h1:∀v∈us,v.oneCell'=true)
 (hbv:w.heap[bv]? = some (.cells cv Tv (0,0))) (hCv:1<=Cv) (hfv:ov+Cv*3<=cv.size) (hcv:∀j,j<3->cv.getD (ov+j) undef=xs.getD j undef) (h1v:∀v∈xs,v.oneCell'=true) (hne:bv≠b) :
 Calls Tryz.prog 236 #[.slice (some ⟨b,o,none⟩) n C,.int .i64 i,.slice (some ⟨bv,ov,none⟩) 1 Cv] w λe w'=>
  e=.returned (.slice (some ⟨b,o,none⟩) (n+1) C)/\Placed w w' (some b) b o C (n+1) 3 (us.take (i*3)++xs++us.drop (i*3)):=by
 have u0:=bj Tryz.underlying117;have mixed:Tryz.prog.follows .mixedOrders=true:=al;obtain⟨i0,z0,hi0,hzs,hzb,hz0,hzc,-⟩:=(aw 196 _ Dx).info;have hzs:i0.size=3:=hzs;have hC63:C<=9223372036854775807:=sC;have hz1:¬((1:Int)=0):=aa;have hz2:¬((i:Int)=(n:Int)):=aa;have hdl:(us.drop (i*3)).length=(n-i)*3:=sB
 have hov:∀lb cb,(callFunc 260 #[.slice (some ⟨bv,ov,none⟩) 1 Cv,.slice (some ⟨b,o+(i*3+3),none⟩) lb cb]).run Tryz.prog w=.ok (.value (.bool false)) w:=λlb cb=>by
  rw[I9 Tryz.func260 al al al (e:=Extern.SlicesOverlaps.overlaps #[117,117] #[4]) al,
   BE w 117 4 196 Tryz.underlying117 3 Tryz.sizeOf196 ⟨bv,ov,none⟩ ⟨b,o+(i*3+3),none⟩ 1 Cv lb cb hne Tv T cv.size cs.size (by simp[World.shape?,hbv]) (by simp[World.shape?,hb]) aa sA sA]
  rfl
 have hmm:(n+1)*3<=C*3:=ao _ hroom;have hii:i*3+3<=n*3:=by have:=ao 3 (show i+1<=n from aa);omega
 have e1:(i+1)*3=i*3+3:=bD i 3;have e2:(n+1)*3=n*3+3:=bD n 3;have e3:(n-i)*3=n*3-i*3:=uS n i 3;obtain⟨cs1,hcs1⟩:∃c,c=(cs.toList.take (o+(i+1)*3)++us.drop (i*3)++cs.toList.drop (o+(i+1)*3+(us.drop (i*3)).length)).toArray:=⟨_,rfl⟩;obtain⟨s1,g1⟩:=dp cs (o+(i+1)*3) (us.drop (i*3)) aa;rw[<-hcs1]at s1 g1
 have hcp1:∀(W:World),W.heap=w.heap->∀ty dl dc sl sc,Nat.min sl dl=n-i->(Builtin.copy_ #[117,117] ty #[.slice (some ⟨b,o+(i*3+3),none⟩) dl dc,.slice (some ⟨b,o+i*3,none⟩) sl sc]).run Tryz.prog W=.ok (goInt (n-i:Nat)) (W.setRow b cs1):=λW hW ty dl dc sl sc hm=>by
  have hb':W.heap[b]? = some (.cells cs T (0,0)):=by rw[hW];exact hb
  rw[hcs1,e1]
  exact gC Tryz.underlying117 hi0 hb' ⟨b,o+i*3,none⟩ (us.drop (i*3)) (n-i) hm sy
   (λj v hj=>by
    rw[dz];refine fF hb' (o:=o+i*3) (vs:=us.drop (i*3)) (λj hj=>?_) aa j v hj;rw[et,hcs _ aa];simp[aL])
   (λv hv=>h1 v (a8 hv)) aa
 obtain⟨cs2,hcs2⟩:∃c,c=(cs1.toList.take (o+i*3)++xs++cs1.toList.drop (o+i*3+xs.length)).toArray:=⟨_,rfl⟩;obtain⟨s2,g2⟩:=dp cs1 (o+i*3) xs aa;rw[<-hcs2]at s2 g2
 have hcp2:∀(W:World),W.heap[b]? = some (.cells cs1 T (0,0))->W.heap[bv]? = some (.cells cv Tv (0,0))->∀ty dl dc,0<dl->(Builtin.copy_ #[117,117] ty #[.slice (some ⟨b,o+i*3,none⟩) dl dc,.slice (some ⟨bv,ov,none⟩) 1 Cv]).run Tryz.prog W=.ok (goInt (1:Nat)) (W.setRow b cs2):=λW hW hWv ty dl dc hm=>by
  rw[hcs2]
  exact gC Tryz.underlying117 hi0 hW ⟨bv,ov,none⟩ xs 1 jX iB
   (λj v hj=>by
    rw[dz];exact fF hWv (λj hj=>hcv j aa) aa j v hj)
   h1v aa
 have hw1:IntKind.i64.wrap ((i:Int)+1)=(i:Int)+1:=sx;have hb1:(0:Int)<=(i:Int)+1:=aa;have hin:i<=n:=aa;have htn:((i:Int)+1).toNat=i+1:=aa;have hb2:¬(C=i+1):=aa;have hb3:(i:Int)<=(n:Int)+1:=aa;have hb4:¬(C=i):=aa
 go_enter Tryz.func236,Tryz.ntmps236
 go_wp2_with (simp only[hov])
 have hE:=hcp1 w.drew rfl 3 (n-i) (C-(i+1)) (n+1-i) (C-i) jX;have hE2:=hcp2 (w.drew.setRow b cs1) DO DN 3 (n+1-i) (C-i) aa
 have hP:Placed w ((w.drew.setRow b cs1).setRow b cs2) (some b) b o C (n+1) 3 (us.take (i*3)++xs++us.drop (i*3)):=by
  refine⟨⟨cs2,T,dy _ b cs1 cs2 T (0,0) (dy w.drew b cs cs1 T (0,0) hb),aa,λj hj=>?_⟩,hroom,hC,ab,⟨rfl,rfl,rfl⟩,.inr rfl,λc _ hc=>?_⟩
  ·rw[g2,g1]
   have hl:(us.take (i*3)).length=i*3:=aN;simp only[aL];rw[cj];by_cases c1:j<i*3
   ·exact EG
   ·rw[a9 aa,hl]
    by_cases c2:j<i*3+3
    ·exact Ef
    ·exact EH
  ·exact zd
 clear hcs1 hcs2
 go_region
 go_wp2
 go_ret
 all_goals exact⟨rfl,hP⟩
theorem rD(w:World)(a:Option Addr)(n C bv ov Cv:Nat)(r:Value)(w1:World)(hnC:n<=C)(hC:C<=maxLen)
 (hr:∀ty,(Builtin.append_ #[117,117] ty #[.slice a n C,.slice (some ⟨bv,ov,none⟩) 1 Cv]).run Tryz.prog w=.ok r w1) :
 Calls Tryz.prog 236 #[.slice a n C,.int .i64 n,.slice (some ⟨bv,ov,none⟩) 1 Cv] w λe w'=>e=.returned r/\w'=w1:=by
 have u0:=bj Tryz.underlying117;have mixed:Tryz.prog.follows .mixedOrders=true:=al;have hC63:C<=9223372036854775807:=sC;have hz1:¬((1:Int)=0):=aa
 cases a with
 | none =>
   exact Lp
 | some q =>
   exact Lp
theorem FM(w:World)(us xs:List Value)(n i b o C bv ov Cv:Nat)(cs cv:Array Value)(T Tv:TypeId)(hul:us.length=n*3)(hxl:xs.length=3)(hi:i<n)(hnc:n<=C)(hroom:C<n+1)(hbig:(n+1)*tK.bytes<=140737488355328)
 (hb:w.heap[b]? = some (.cells cs T (0,0))) (hfit:o+C*3<=cs.size) (hcs:∀j,j<n*3->cs.getD (o+j) undef=us.getD j undef) (h1:∀v∈us,v.oneCell'=true)
 (hbv:w.heap[bv]? = some (.cells cv Tv (0,0))) (hCv:1<=Cv) (hfv:ov+Cv*3<=cv.size) (hcv:∀j,j<3->cv.getD (ov+j) undef=xs.getD j undef) (h1v:∀v∈xs,v.oneCell'=true) :
 Calls Tryz.prog 236 #[.slice (some ⟨b,o,none⟩) n C,.int .i64 i,.slice (some ⟨bv,ov,none⟩) 1 Cv] w λe w'=>
  ∃nC,e=.returned (.slice (some ⟨w.heap.size,0,none⟩) (n+1) nC)/\Placed w w' (some b) w.heap.size 0 nC (n+1) 3 (us.take (i*3)++xs++us.drop (i*3)):=by
 have u0:=bj Tryz.underlying117;have mixed:Tryz.prog.follows .mixedOrders=true:=al;obtain⟨i0,z0,hi0,hzs,hzb,hz0,hzc,-⟩:=(aw 196 _ Dx).info;have hzz:=jB hzc;have hzs:i0.size=3:=hzs;have hzb:i0.bytes=tK.bytes:=hzb;have hby:0<tK.bytes:=ah;have hzz:z0.cells.size=3:=hzz;have hnb:(n+1)<=140737488355328:=dP (cm _ hby) hbig;have hz1:¬((1:Int)=0):=aa;have hz2:¬((i:Int)=(n:Int)):=aa;have hz3:(C:Int)<(n:Int)+1:=aa;have hmm:n*3<=C*3:=ao _ hnc;have hii:i*3+3<=n*3:=by have:=ao 3 (show i+1<=n from aa);omega
 have e1:(i+1)*3=i*3+3:=bD i 3;have e2:(n+1)*3=n*3+3:=bD n 3;have e3:(n-i)*3=n*3-i*3:=uS n i 3;have hdl:(us.drop (i*3)).length=(n-i)*3:=sB;have htl:(us.take (i*3)).length=i*3:=aN;have hbw:b<w.heap.size:=fM hb;have hvw:bv<w.heap.size:=fM hbv;have hkk:(n:Int)+1-(i:Int)=((n+1-i:Nat):Int):=aa;have hik:i+(n+1-i)=n+1:=aa
 have hold:(Builtin.firstCells i0.size i (.slice (some ⟨b,o,none⟩) i C)).run Tryz.prog w.drew=.ok (us.take (i*3)).toArray w.drew:=by
  rw[hzs]
  exact mF w.drew 3 i ⟨b,o,none⟩ i C (us.take (i*3)) (by rw[htl]) (λj v hj=>by
   rw[dz]
   exact fF (w:=w.drew) (o:=o) (vs:=us.take (i*3)) (cs:=cs) (T:=T) hb (λj hj=>by
    rw[hcs _ aa];rw[htl]at hj;simp only[aL,cA,an hj]) aa j v hj)
 have hrz:∀ty,(Builtin.append_ #[117,3] ty #[.slice (some ⟨b,o,none⟩) i C,.int .i64 ((n:Int)+1-(i:Int))]).run Tryz.prog w =
  .ok (.slice (some ⟨w.heap.size,0,none⟩) (n+1) (grownCap w (n+1) C 196)) (w.drew.alloc (.cells ((us.take (i*3)).toArray++Builtin.zeroCells z0.cells (n+1-i)++Builtin.zeroCells z0.cells (grownCap w (n+1) C 196-(n+1))) 196)):=λty=>by
  have h:=wk w 117 3 ty 196 i0 z0 .i64 .i64 Tryz.underlying117 Tryz.underlying3 hi0 hz0 (some ⟨b,o,none⟩) i C (us.take (i*3)) hold (n+1-i) aa aa aa aa (by rw[hzb];have:=ao tK.bytes (show n+1-i<=n+1 from aa);omega) DM;rw[hik]at h;rw[hkk];exact h
 obtain⟨G,hG⟩:∃G,G=grownCap w (n+1) C 196:=⟨_,rfl⟩;obtain⟨ROW,hROW⟩:∃ROW:Array Value,ROW=(us.take (i*3)).toArray++Builtin.zeroCells z0.cells (n+1-i)++Builtin.zeroCells z0.cells (G-(n+1)):=⟨_,rfl⟩;rw[<-hG]at hrz;rw[<-hROW]at hrz;have hGn:n+1<=G:=DL;have hGm:G<=maxLen:=by rw[hG];exact dE w (n+1) C 196 ij
 have hG63:G<=9223372036854775807:=by unfold maxLen at hGm;omega
 have hRs:ROW.size=G*3:=by
  exact EF
 have hGK:(n+1)*3<=G*3:=ao _ hGn
 have hRg:∀j,j<i*3->ROW.getD j undef=us.getD j undef:=by
  exact ET
 obtain⟨W1,hW1⟩:∃W1,W1=w.drew.alloc (.cells ROW 196):=⟨_,rfl⟩;rw[<-hW1]at hrz;have hN:W1.heap[w.heap.size]? = some (.cells ROW 196 (0,0)):=DK;have hO:∀c,c<w.heap.size->W1.heap[c]? = w.heap[c]?:=λc hc=>DJ
 have hS:W1.heap.size=w.heap.size+1:=by rw[hW1];simp
 obtain⟨cs1,hcs1⟩:∃c,c=(ROW.toList.take (i*3)++xs++ROW.toList.drop (i*3+xs.length)).toArray:=⟨_,rfl⟩;obtain⟨s1,g1⟩:=dp ROW (i*3) xs aa;rw[<-hcs1]at s1 g1
 have hcpA:=gC (P:=Tryz.prog) (w:=W1) (ty:=3) Tryz.underlying117 hi0 (dl:=n+1-i) (dc:=G-i) (o:=i*3) hN ⟨bv,ov,none⟩ (sl:=1) (sc:=Cv) xs 1 jX iB
  (λj v hj=>by
   rw[dz];exact fF (by rw[hO _ hvw];exact hbv) (λj hj=>hcv j aa) aa j v hj) h1v aa
 rw[<-hcs1]at hcpA;have hN1:(W1.setRow w.heap.size cs1).heap[w.heap.size]? = some (.cells cs1 196 (0,0)):=dy _ _ _ _ _ _ hN;obtain⟨cs2,hcs2⟩:∃c,c=(cs1.toList.take (i*3+3)++us.drop (i*3)++cs1.toList.drop (i*3+3+(us.drop (i*3)).length)).toArray:=⟨_,rfl⟩;obtain⟨s2,g2⟩:=dp cs1 (i*3+3) (us.drop (i*3)) aa;rw[<-hcs2]at s2 g2;have hbN:b≠w.heap.size:=aa
 have hcpB:=gC (P:=Tryz.prog) (w:=(W1.setRow w.heap.size cs1).drew) (ty:=3) Tryz.underlying117 hi0 (dl:=n-i) (dc:=G-(i+1)) (o:=i*3+3) hN1 ⟨b,o+i*3,none⟩ (sl:=n-i) (sc:=C-i) (us.drop (i*3)) (n-i) jX sy
  (λj v hj=>by
   rw[dz]
   have hb':(W1.setRow w.heap.size cs1).drew.heap[b]? = some (.cells cs T (0,0)):=by
    exact Ex
   refine fF hb' (o:=o+i*3) (vs:=us.drop (i*3)) (λj hj=>?_) aa j v hj;rw[et,hcs _ aa];simp[aL])
  (λv hv=>h1 v (a8 hv)) aa
 rw[<-hcs2]at hcpB
 have hP:Placed w ((W1.setRow w.heap.size cs1).drew.setRow w.heap.size cs2) (some b) w.heap.size 0 G (n+1) 3 (us.take (i*3)++xs++us.drop (i*3)):=by
  refine⟨⟨cs2,196,dy _ _ cs1 cs2 _ (0,0) hN1,aa,λj hj=>?_⟩,hGn,hGm,?_,?_,.inl (aH _),λc hc hne=>?_⟩
  ·rw[cQ,g2,g1]
   simp only[aL];rw[cj];by_cases c1:j<i*3
   ·exact EM
   ·rw[a9 aa,htl]
    by_cases c2:j<i*3+3
    ·exact Ej
    ·exact EB
  ·simp[hS]
  ·rw[hW1];exact⟨rfl,rfl,rfl⟩
  ·exact EA
 have hw1:IntKind.i64.wrap ((i:Int)+1)=(i:Int)+1:=sx;have hb1:(0:Int)<=(i:Int)+1:=aa;have hin:i<=n:=aa;have htn:((i:Int)+1).toNat=i+1:=aa;have hGi:¬(G=i):=aa;have hGim:¬(G=i+1):=aa;have hci:¬(C=i):=aa;have hb3:(i:Int)<=(n:Int):=aa
 clear hkk hik hold hROW hG hcs1 hcs2 hN hN1 hO hS hRs hRg hW1
 go_enter Tryz.func236,Tryz.ntmps236
 go_wp2_with (first
  |(at_builtin;refine Cj _ rfl _ _ _ _ rfl _ _ rfl rfl _ _ (hrz _) ?_)
  |(at_builtin;refine lI _ rfl _ _ 117 117 rfl _ _ rfl rfl hcpA ?_))
 go_region
 go_wp2
 go_ret
 all_goals exact⟨_,rfl,hP⟩
theorem CY:zB Tryz.prog 236 3 tK.bytes:=by
 refine⟨⟨_,Tryz.func236,al,al⟩,λw us xs n i s v ob bv0 hul hxl hi hbig hs hv hap=>?_⟩;obtain⟨i0,z0,hi0,hzs,hzb,hz0,hzc,-⟩:=(aw 196 _ Dx).info;have hzz:=jB hzc;have hzs:i0.size=3:=hzs;have hzb:i0.bytes=tK.bytes:=hzb;have hby:0<tK.bytes:=ah;have hzz:z0.cells.size=3:=hzz;have hnb:(n+1)<=140737488355328:=dP (cm _ hby) hbig;rcases hv with⟨h0,-⟩|⟨bv,ov,Cv,cv,Tv,rfl,rfl,hbv,hCv,hCvm,hfv,hcv,h1v⟩
 ·omega
 have hcellv:∀j v,xs[j]? = some v->w.cell? (Addr.add ⟨bv,ov,none⟩ j)=some v:=λj v hj=>by
  exact En
 have fresh:∀(C0 nC:Nat) (rest:Array Value) (ob:Option Nat),n+1<=nC->nC<=maxLen->rest.size=(nC-(n+1))*3 ->
  Placed w (w.drew.alloc (.cells (us.toArray++xs.toArray++rest) 196)) ob w.heap.size 0 nC (n+1) 3 (us.take (n*3)++xs++us.drop (n*3)):=by
  intro C0 nC rest ob h1 h2 h3;have e:nC*3=n*3+3+(nC-(n+1))*3:=DI;refine⟨⟨_,_,rJ w.drew _,by simp[hul,hxl,h3];omega,λj hj=>?_⟩,h1,h2,ab,⟨rfl,rfl,rfl⟩,.inl (aH _),λc hc _=>pB w.drew _ hc⟩;rw[aB aa,bm aa,bO,cQ];have e2:(n+1)*3=n*3+3:=bD n 3;simp only[aW,aL];rw[dG aN,Du,iz]
 rcases hs with⟨rfl,rfl,a,rfl⟩|⟨b,o,C,cs,T,rfl,rfl,hb,hnC,hCm,hfit,hcs,h1⟩
 ·obtain rfl:i=0:=by omega
  have hun:us=[]:=aA aa;subst hun;have hrun:=λty=>jG (P:=Tryz.prog) (w:=w) (ty:=ty) Tryz.underlying117 hi0 hz0 a ⟨bv,ov,none⟩ 1 Cv xs iB hcellv aa aa (by rw[hzb];omega)
  refine(rD w a 0 0 bv ov Cv _ _ (aH _) ij hrun).mono ?_
  rintro e w' ⟨rfl,rfl⟩
  have hge:=lU w 1 0 196;have hcm:=dE w 1 0 196 ij;refine⟨_,_,_,rfl,?_⟩;have:=fresh 0 (grownCap w 1 0 196) (Builtin.zeroCells z0.cells (grownCap w 1 0 196-1)) none hge hcm (by rw[gU,hzz]);exact jD
 ·by_cases hin:i=n
  ·subst hin
   by_cases hroom:i+1<=C
   ·have hmm:(i+1)*3<=C*3:=ao _ hroom
    have e2:(i+1)*3=i*3+3:=bD i 3;have hrun:=λty=>Go.AM.run_append_room (P:=Tryz.prog) (ty:=ty) (c:=Cv) (n:=i) (m:=1) Tryz.underlying117 hi0 hb ⟨bv,ov,none⟩ xs iB hcellv h1v hroom yN
    refine(rD w _ i C bv ov Cv _ _ hnC hCm hrun).mono ?_
    rintro e w' ⟨rfl,rfl⟩
    obtain⟨g0,g⟩:=dp cs (o+i*i0.size) xs (by rw[hzs];omega);refine⟨_,_,_,rfl,⟨_,_,dy w b cs _ T (0,0) hb,by rw[g0];exact hfit,λj hj=>?_⟩,hroom,hCm,ab,⟨rfl,rfl,rfl⟩,.inr rfl,λc _ hc=>tJ w b c _ hc⟩;rw[g,hzs,aB aa,bm aa,bO];by_cases c1:j<i*3
    ·exact Ez
    ·exact EC
   ·have hrun:=λty=>sf (P:=Tryz.prog) w 117 ty 196 i0 z0 Tryz.underlying117 hi0 hz0 ⟨b,o,none⟩ i C us (by rw[hzs];exact hul) (λj v hj=>by
     rw[dz];have:=ao 3 hnC;exact fF hb (λj hj=>hcs j aa) aa j v hj) ⟨bv,ov,none⟩ 1 Cv xs iB hcellv aa aa (by rw[hzb];exact uR aa hbig)
    refine(rD w _ i C bv ov Cv _ _ hnC hCm hrun).mono ?_
    rintro e w' ⟨rfl,rfl⟩
    have hge:=lU w (i+1) C 196;have hcm:=dE w (i+1) C 196 ij;exact Ee
  ·by_cases hroom:n+1<=C
   ·refine(BW w us xs n i b o C bv ov Cv cs cv T Tv hul hxl aa hroom hCm hb hfit hcs h1 hbv hCv hfv (λj hj=>hcv j aa) h1v (λh=>hap b rfl eK)).mono ?_
    exact D5
   ·refine(FM w us xs n i b o C bv ov Cv cs cv T Tv hul hxl aa hnC aa hbig hb hfit hcs h1 hbv hCv hfv (λj hj=>hcv j aa) h1v).mono ?_
    exact D7
end Go.Proofs.YtklblkobegcljaaGreat
