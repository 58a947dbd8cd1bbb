import Derived.Test.YtklblkobegcljaaGreatPC
import Derived.Test.YtklblkobegcljaaGreatPB
import Derived.Test.YtklblkobegcljaaGreatNA
import Derived.Test.YtklblkobegcljaaGreatMF
import Derived.Lib.AppendZerosOnto
import Derived.Lib.Overlaps
import Derived.Laws.IdiomCopy
import Derived.Laws.Externs
import Derived.Test.YtklblkobegcljaaGreatMH
import Derived.Shelf.RegionOpenPlain
namespace Go.Proofs.YtklblkobegcljaaGreat
open Go.AM
set_option maxRecDepth 20000
noncomputable def lU:List (List Part)->List Part->Option (List Part)
 | [],v=>some v
 |a::l,v=>if(bn a v).2.2=true then lU l (bn a v).2.1 else none
open Classical in
noncomputable def jS(l:List (List Part))(b:List Part):List Part×Bool:=
 if dv b then match lU l (dz b)with
  |some v=>(v,true)
  |none=>([],false)
 else([],false)
structure Shp(q:Part):Prop where
 k:q.kind=1\/q.kind=2\/q.kind=3
 n:0<=q.n
 put:q.kind=2->q.n=0/\iE q.signs
 run:q.kind≠2->q.signs=[]
 pos:0<psz q
theorem A9{L:List Part}{P:List Int}{D:Int}(hL:∀q∈L,Shp q)(hP:iE P):∀q∈bE L P D,Shp q:=by
 intro q hq;unfold bE at hq;rcases aO.1 hq with hq|hq
 ·exact hL q hq
 ·rcases aO.1 hq with hq|hq
  ·split at hq
   ·simp at hq
   ·rename_i h
    simp at hq;subst hq;have:0<P.length:=eu.2 h;exact⟨.inr (.inl rfl),ab,λ_=>⟨rfl,hP⟩,λh=>absurd rfl h,by simpa[psz]using this⟩
  ·split at hq
   ·rename_i h
    simp at hq;subst hq;exact⟨.inr (.inr rfl),gh,λh=>gQ,λ_=>rfl,by simp[psz];omega⟩
   ·simp at hq
theorem QE{L:List Part}{n:Int}(hL:∀q∈L,Shp q)(hn:0<n):∀q∈dE L n,Shp q:=by
 intro q hq;have one:Shp ⟨1,n,[]⟩:=⟨.inl rfl,gh,λh=>gQ,λ_=>rfl,by simp[psz];omega⟩;unfold dE at hq
 split at hq
 ·rename_i hl
  split at hq
  ·rename_i k
   rcases kW hq with hq|rfl
   ·exact hL q hq
   ·have h:=hL (L[L.length-1]' aa) (aj _)
    have h1:=h.n;have h2:=h.run aa;exact⟨.inl rfl,gh,λh=>gQ,λ_=>h2,by simp[psz];omega⟩
  ·rcases aO.1 hq with hq|hq
   ·exact hL q hq
   ·simp at hq;subst hq;exact one
 ·simp at hq;subst hq;exact one
theorem Bn{o:List Part}(ho:∀p∈o,a8 p):∀(i:Nat),i<=o.length->(∀q∈(bZ (o.take i)).1,Shp q)/\iE (bZ (o.take i)).2.1
 |0,_=>by simp[bZ,iE]
 | i + 1, hi => by
   obtain⟨h1,h2⟩:=Bn ho i aa;have hlt:i<o.length:=aa;have hp:=ho _ (aj hlt);rw[jM hlt];generalize bZ (o.take i)=s at h1 h2;generalize o[i]=p at hp;obtain⟨L,P,D⟩:=s;simp only at h1 h2;unfold fY
   split
   ·rename_i k
    rw[jF k]at hp;refine⟨h1,λn hn=>?_⟩;rcases aO.1 hn with hn|hn
    ·exact h2 n hn
    ·exact hp.2.2 n hn
   ·split
    ·exact⟨h1,h2⟩
    ·split
     ·rename_i hn
      exact⟨QE (A9 h1 h2) hn,by simp[iE]⟩
     ·exact⟨h1,h2⟩
theorem y1{o:List Part}(ho:∀p∈o,a8 p):∀q∈normal o,Shp q:=by
 have h:=Bn ho o.length (aF _);rw[cI]at h;exact A9 h.1 h.2
theorem I7:∀{L:List Part},(∀q∈L,Shp q)->tos L=toA (bR L)
 | [],_=>rfl
 | p :: L, h => by
   have hp:=h p (aK ..);simp only[tos,bR,jD,I7 (λq hq=>h q (aD _ hq))]
   congr 1
   unfold ats;by_cases k:p.kind=2
   ·have k3:¬p.kind=3:=by omega
    have:=(hp.put k).1;rw[ao k,au k3,yy];simp[psz,this]
   ·rw[au k]
    split
    ·exact(yz _).symm
    ·exact(GZ _).symm
theorem UP{L:List Part}{q:Part}(h:q∈L)(k:q.kind≠2):psz q<=frs L:=by
 induction L with
 |nil=>simp at h
 | cons p L ih =>
   simp only[frs];exact JP
theorem Tx{L:List Part}{q:Part}(h:q∈L)(k:q.kind≠3):psz q<=tos L:=by
 induction L with
 |nil=>simp at h
 | cons p L ih =>
   simp only[tos];exact JP
theorem I6:∀{L:List Part},(∀q∈L,Shp q)->L.length<=tsz L
 | [],_=>by simp[tsz]
 | p :: L, h => by
   have:=I6 (λq hq=>h q (aD _ hq));have:=(h p (aK ..)).pos;simp only[tsz,cr];omega
theorem XB{L:List Part}(h:∀q∈L,Shp q)(h1:frs L<=200)(h2:tos L<=200):fG L:=by
 have hl:=I6 h;have ht:=GV L;refine⟨λq hq=>?_,aa⟩;have hs:=h q hq;have hn:=hs.n;by_cases k:q.kind=2
 ·have h3:=Tx hq aa
  have h4:=hs.put k;exact .inr ⟨k,h4.1,by unfold psz at h3;omega,h4.2⟩
 ·have h3:=UP hq k
  have h4:=hs.run k;have hk:=hs.k;exact .inl ⟨aa,⟨hn,by unfold psz at h3;omega⟩,h4⟩
theorem Hz{o:List Part}(h:fG o):(frs o:Int)=cQ o:=by
 rw[El h.1,jE (λp hp=>YS (h.1 p hp)),mC];unfold cQ et;rw[ao h]
theorem QW{o:List Part}(h:fG o):(tos o:Int)=nS o:=by
 rw[B5 h.1,jE (λp hp=>YR (h.1 p hp)),mC];unfold nS et;rw[ao h]
theorem vo{o:List Part}(h:dv o):dv (normal o)/\cQ (normal o)=cQ o/\nS (normal o)=nS o:=by
 have hs:=y1 h.1.1;have e1:frs (normal o)=frs o:=by rw[td,kP h.1.1,y4,<-td]
 have e2:tos (normal o)=tos o:=by rw[I7 hs,kP h.1.1,y3,<-u9 h.1.1]
 have f:=oB h;have t:=u7 h;have hp:=XB hs (by have:=h.2.1;omega) (by have:=h.2.2;omega);have f2:=Hz hp;have t2:=QW hp;have:=h.2;exact⟨⟨hp,aa,aa⟩,aa,aa⟩
theorem NS{o:List Part}(h:dv o):dv (dz o)/\cQ (dz o)=cQ o/\nS (dz o)=nS o:=by
 have:dz o=normal o:=by unfold dz;rw[ao h]
 rw[this];exact vo h
def cT(c s r:Int):List Seen->List Seen
 | []=>[⟨c,s,r⟩]
 |x::l=>if x.client<c then x::cT c s r l else if x.client=c then⟨c,s,r⟩::l else⟨c,s,r⟩::x::l
noncomputable def cK(d:Doc)(e:Entry):Doc:=
 if d.list.length<8 then⟨d.name,d.fr,d.text,d.list++[e],cT e.client e.seq (aB d+1) d.seen⟩
 else⟨d.name,d.fr+1,(apply ((d.list++[e])[0]' ab).o d.text).1,(d.list++[e]).drop 1,cT e.client e.seq (aB d+1) d.seen⟩
open Classical in
noncomputable def eJ(d:Doc)(base:Int)(o:List Part):List Part×Int:=
 if bQ d/\dv o then
  if aB d<base then([],2)else if base<d.fr then([],3)else
  if cQ o=(gS d base).1.length then
   if(jS ((d.list.drop (base-d.fr).toNat).map Entry.o) o).2=true then((jS ((d.list.drop (base-d.fr).toNat).map Entry.o) o).1,0)else([],5)
  else([],1)
 else([],1)
def Fg(d:Doc)(client seq:Int)(o:List Part):Prop:=bQ d/\(1<=client/\client<=8)/\(1<=seq/\seq<=1000000000)/\dv o
open Classical in
noncomputable def cU(d:Doc)(client seq base:Int)(o:List Part):Doc×Int×Int:=
 if Fg d client seq o then
  if(fF d client).1.seq=seq then(d,(fF d client).1.rev,0)
  else if(fF d client).1.seq+1=seq then
   if(eJ d base o).2=0 then
    if 999999000<=aB d then(Doc.zero,0,5)else(cK d ⟨client,seq,(eJ d base o).1⟩,aB d+1,0)
   else(Doc.zero,0,(eJ d base o).2)
  else(Doc.zero,0,4)
 else(Doc.zero,0,1)
open Classical in
noncomputable def kF(d:Doc)(rev:Int):List Entry×Int:=
 if bQ d then if aB d<rev then([],2)else if rev<d.fr then([],3)else(d.list.drop (rev-d.fr).toNat,0)else([],1)
theorem yZ:∀(l:List (List Part)) (t u:List Int) (v v':List Part),bk l t=some u->lU l v=some v'->dv v->cQ v=t.length->dv v'/\cQ v'=u.length
 | [], t, u, v, v', h1, h2, h3, h4 => by
   simp only[bk,ez]at h1;simp only[lU,ez]at h2;subst h1 h2;exact⟨h3,h4⟩
 | a :: l, t, u, v, v', h1, h2, h3, h4 => by
   rw[bk]at h1;rw[lU]at h2
   split at h1
   ·rename_i ha
    split at h2
    ·rename_i ht
     have k:=AI ht;have hl:=(mr (mz.1 ha)).2;exact yZ l _ u _ v' h1 h2 k.oky (by rw[k.fy];omega)
    ·cases h2
   ·cases h1
theorem jd:∀(l m:List (List Part)) (t:List Int),bk (l++m) t=(bk l t).bind (bk m)
 | [],m,t=>by simp[bk]
 | o :: l, m, t => by
   rw[da,bk,bk]
   split
   ·exact jd l m _
   ·simp
theorem oF:∀(l:List (List Part)) (t u:List Int),eo t->bk l t=some u->eo u
 | [],t,u,h,e=>by simp only[bk,ez]at e;exact e ▸ h
 | o :: l, t, u, h, e => by
   rw[bk]at e
   split at e
   ·rename_i ha
    exact oF l _ u (mr (mz.1 ha)).1 e
   ·cases e
theorem pV{d:Doc}(h:bQ d){rev:Int}(h1:d.fr<=rev)(h2:rev<=aB d):(gS d rev).2=true/\bk ((d.list.take (rev-d.fr).toNat).map Entry.o) d.text=some (gS d rev).1/\eo (gS d rev).1 /\
 bk ((d.list.drop (rev-d.fr).toNat).map Entry.o) (gS d rev).1=bk (d.list.map Entry.o) d.text:=by
 have hs:=h.2.2.2.2.2.1;have ht:=h.2.2.1;have e:d.list.map Entry.o=(d.list.take (rev-d.fr).toNat).map Entry.o++(d.list.drop (rev-d.fr).toNat).map Entry.o:=by rw[<-ik,dI]
 have e2:gS d rev=fA ((d.list.take (rev-d.fr).toNat).map Entry.o) d.text:=by unfold gS;rw[ao ⟨h,h1,h2⟩]
 rw[e,jd]at hs
 cases hx:bk ((d.list.take (rev-d.fr).toNat).map Entry.o) d.text with
 |none=>rw[hx]at hs;simp at hs
 | some u =>
   have e3:fA ((d.list.take (rev-d.fr).toNat).map Entry.o) d.text=(u,true):=by unfold fA;rw[ao ht,hx]
   rw[e2,e3];refine⟨rfl,rfl,oF _ _ _ ht hx,?_⟩
   conv=>rhs;rw[e,jd,hx]
   rfl
theorem sE{d:Doc}(h:bQ d):bk (d.list.map Entry.o) d.text=some (eL d)/\eo (eL d):=by
 have hh:=dg h;have h0:d.fr<=aB d:=aa;obtain⟨h1,h2,h3,h4⟩:=pV h h0 aa;have e:(aB d-d.fr).toNat=d.list.length:=aa;rw[e,cI]at h2;exact⟨h2,h3⟩
theorem uG{d:Doc}{base:Int}{o:List Part}(hd:bQ d)(ho:dv o)(h1:d.fr<=base)(h2:base<=aB d)(hf:cQ o=(gS d base).1.length)
 (hp:(jS ((d.list.drop (base-d.fr).toNat).map Entry.o) o).2=true):lF (jS ((d.list.drop (base-d.fr).toNat).map Entry.o) o).1 (eL d):=by
 obtain⟨k1,k2,k3,k4⟩:=pV hd h1 h2;obtain⟨m1,m2⟩:=sE hd;rw[m1]at k4;unfold jS at hp⊢;rw[ao ho]at hp⊢
 cases hx:lU ((d.list.drop (base-d.fr).toNat).map Entry.o) (dz o)with
 |none=>rw[hx]at hp;simp at hp
 | some v =>
   have hn:=NS ho;have:=yZ _ _ _ _ _ k4 hx hn.1 (by rw[hn.2.1,hf]);exact⟨this.1,m2,this.2⟩
set_option maxHeartbeats 1600000
theorem QH(l:List Seen):∀a∈l,∀d∈a.row,isV d=true:=by
 intro a _ d hd;simp[Seen.row]at hd;rcases hd with rfl|rfl|rfl<;>rfl
theorem jo(l:List Entry)(hl:nL aX l<=2^30):ar Tryz.prog 194 [.c (.s (l.map Entry.row))] (.one (.c (.s (l.map Entry.row)) 3)):=by
 refine pci aw Tryz.func194 (λw0 base=>?_);have hle:=aY hl;simp;refine aH eok (λx:Nat×Hd=>x.1<=l.length) (λx=>⟨22,0,[(8,.v (.int .i64 x.1)),(7,.v (.int .i64 l.length)),(6,.ro (l.map Entry.row)),(3,.sl 5000 x.2 3 0 x.1)],[(5000,.rows x.2 3 ((l.take x.1).map Entry.row) true)]⟩) (λx=>l.length-x.1) (0,none) ab ab (λx hx=>Ent.refl ?_);obtain⟨i,H⟩:=x;simp only at hx⊢;by_cases hlt:i<l.length
 ·have hm:=cH hl hlt
  unfold aX at hm;simp[hlt,Entry.row];intro b5;refine ag.pure (zC l[i].o hm) ab ?_;simp;intro H1;have e1:min i l.length=i:=aa;simp[e1];intro b6;exact K8
 ·exact C6
theorem zb(e:Entry)(hl:aX e<=2^30):ar Tryz.prog 218 [.agg e.row] (.one (.agg e.res)):=by
 refine pci aw Tryz.func218 (λw0 base=>?_);unfold aX at hl;simp[Entry.row];intro b1 b2;refine drw eok mix [0,1,2,3,4,5] [6,7,8] (.c 6 6 1 62 (.c 6 7 20 42 (.c 6 8 42 0 (.l 6 0) .s) .s) .s) ?_;simp
 try intros
 refine ag.pure (vv e.o aa) ab ?_;simp
 try intros
 simp[Entry.res]
theorem gm(l:List Entry)(hl:nL aX l<=2^30):ar Tryz.prog 167 [.c (.s (l.map Entry.row))] (.one (.c (.s (l.map Entry.row)) 3)):=by
 refine pci aw Tryz.func167 (λw0 base=>?_);have hle:=aY hl;simp;intro b6;refine aH eok (λx:Nat×Hd=>x.1<=l.length) (λx=>⟨20,0,[(9,.v (.int .i64 x.1)),(8,.v (.int .i64 l.length)),(7,.ro (l.map Entry.row)),(3,.sl 96 x.2 3 0 x.1)],[(96,.rows x.2 3 ((l.take x.1).map Entry.row) true)]⟩) (λx=>l.length-x.1) (0,some (b6,0,0)) ab ab (λx hx=>Ent.refl ?_);obtain⟨i,H⟩:=x;simp only at hx⊢;by_cases hlt:i<l.length
 ·have hm:=cH hl hlt
  simp[hlt,Entry.row];intro b5;refine ag.pure (zb l[i] hm) fe ?_;simp[Entry.res];intro H1;have e1:min i l.length=i:=aa;simp[e1];intro b7;exact K8
 ·exact C6
theorem vL(d:Doc)(hl:cB d<=2^30):ar Tryz.prog 136 [.agg d.row] (.one (.agg d.res)):=by
 refine pci aw Tryz.func136 (λw0 base=>?_);obtain⟨n1,n2,n3,n4⟩:=dX hl;simp[Doc.row];intro b1 b2;refine drw eok mix [0,1,2,3,4,5,7,8,10,11] [6,9,12,13,14] (.c 10 6 16 1007 (.c 10 9 4 1003 (.c 10 12 1 1002 (.c 10 13 320 682 (.c 10 14 682 0 (.l 10 0) .s) .s) .s) .s) .s) ?_;simp
 try intros
 refine ag.pure (iV d.text aa) ab ?_;simp
 try intros
 refine ag.pure (jo d.list n1) ab ?_;simp
 try intros
 refine⟨QH d.seen,aa,λH=>?_⟩;simp[Doc.res]
theorem vu(d:Doc)(hl:cB d<=2^30):ar Tryz.prog 115 [.agg d.row] (.one (.agg d.res)):=by
 refine pci aw Tryz.func115 (λw0 base=>?_);obtain⟨n1,n2,n3,n4⟩:=dX hl;simp[Doc.row];intro b1 b2;have h8:d.text.length*8<=140737488355328:=aa;have h24:d.seen.length*24<=140737488355328:=aa;refine drw eok mix [0,1,2,3,5,6,8,9,12,13] [4,7,10,11,14,15,16] (.c 10 4 0 1023 (.c 10 7 16 1007 (.c 10 10 4 1003 (.c 10 11 0 1003 (.c 10 14 1 1002 (.c 10 15 320 682 (.c 10 16 682 0 (.l 10 0) .s) .s) .s) .s) (.c 10 11 0 1007 (.c 10 10 4 1003 (.c 10 14 1 1002 (.c 10 15 320 682 (.c 10 16 682 0 (.l 10 0) .s) .s) .s) .s) .s)) (.c 10 11 0 1023 (.c 10 7 16 1007 (.c 10 10 4 1003 (.c 10 14 1 1002 (.c 10 15 320 682 (.c 10 16 682 0 (.l 10 0) .s) .s) .s) .s) .s) .s)) (.c 10 11 0 1023 (.c 10 4 0 1023 (.c 10 7 16 1007 (.c 10 10 4 1003 (.c 10 14 1 1002 (.c 10 15 320 682 (.c 10 16 682 0 (.l 10 0) .s) .s) .s) .s) .s) .s) .s)) ?_;simp
 try intros
 repeat' first
  |(refine ag.pure (gm d.list n1) ab ?_;simp[h24];try intros)
  |(rw[Trc];refine⟨?_,?_⟩<;>(try simp[h8,h24])<;>try intros)
 all_goals
  simp[Doc.res];exact QH d.seen
noncomputable def kI:List (List Part)->List Part->Option (List (List Part)×List Part)
 | [],v=>some ([],v)
 |a::l,v=>if(bn a v).2.2=true then(kI l (bn a v).2.1).map (λr=>((bn a v).1::r.1,r.2))else none
theorem ME:∀(l:List (List Part)) (v:List Part),(kI l v).map Prod.snd=lU l v
 | [],v=>rfl
 | a :: l, v => by
   rw[kI,lU]
   split
   ·rw[<-ME l,Option.map_map];rfl
   ·rfl
open Classical in
noncomputable def iz(l:List (List Part))(b:List Part):List (List Part)×List Part×Bool:=
 if dv b then match kI l (dz b)with
  |some r=>(r.1,r.2,true)
  |none=>([],[],false)
 else([],[],false)
theorem zq(l:List (List Part))(b:List Part):(iz l b).2=jS l b:=by
 unfold iz jS
 split
 ·rw[<-ME]
  cases kI l (dz b)<;>rfl
 ·rfl
theorem yX{l:List (List Part)}{i:Nat}{v:List Part}(h:i<l.length):kI (l.drop i) v=if(bn l[i] v).2.2=true then(kI (l.drop (i+1)) (bn l[i] v).2.1).map (λr=>((bn l[i] v).1::r.1,r.2))else none:=by
 rw[cY h,kI]
theorem Bh{l:List (List Part)}{i:Nat}{v:List Part}(h:l.length<=i):kI (l.drop i) v=some ([],v):=by
 rw[bg h,kI]
theorem F0(l:List (List Part))(b:List Part)(hl:l.length<=2^30)(hs:∀o∈l,nL a9 o<=2^40)(hb:nL a9 b<=2^40):ar Tryz.prog 271 [.c (.s (l.map iy)),.c (.s (b.map Part.row))]
 (.tup [.c (.s ((iz l b).1.map iy)) 1,.c (.s ((iz l b).2.1.map Part.row)) 3,.c (.v (.bool (iz l b).2.2)) 1]):=by
 refine pci aw Tryz.func271 (λw0 base=>?_);simp;refine ag.pure (gJ b hb) ab ?_;by_cases c1:dv b
 rotate_left
 ·have e:iz l b=([],[],false):=by unfold iz;rw[au c1]
  simp[az c1,e]
 have e:iz l b=match kI l (dz b)with
  |some r=>(r.1,r.2,true)
  |none=>([],[],false):=by unfold iz;rw[ao c1]
 simp[c1];refine ag.pure (uA b hb) ab ?_;simp;intro H0
 refine aH eok (λx:(Nat×List (List Part)×List Part×Nat)×Hd×Hd=>(x.1.2.2.2=288\/x.1.2.2.2=449)/\(x.1.1<=l.length/\x.1.2.1.length=x.1.1)/\nL a9 x.1.2.2.1<=2^40/\kI l (dz b)=(kI (l.drop x.1.1) x.1.2.2.1).map (λr=>(x.1.2.1++r.1,r.2)))
  (λx=>⟨42,0,[(21,.v (.int .i64 x.1.1)),(20,.v (.int .i64 l.length)),(19,.ro (l.map iy)),(8,.sl x.1.2.2.2 x.2.2 3 0 x.1.2.2.1.length),(7,.sl 5000 x.2.1 1 0 x.1.2.1.length)],
   [(5000,.rows x.2.1 1 (x.1.2.1.map iy) true),(x.1.2.2.2,.rows x.2.2 3 (x.1.2.2.1.map Part.row) true)]⟩) (λx=>l.length-x.1.1) ((0,[],dz b,288),none,H0) ⟨.inl rfl,ab,by have:=ug b;simp only;omega,ab⟩ ab (λx hx=>Ent.refl ?_)
 obtain⟨⟨i,L,v,kk⟩,H1,H2⟩:=x;obtain⟨hk,⟨hi,hLl⟩,hv,hp⟩:=hx;simp only at hk hi hLl hv hp⊢;have k5:¬kk=5000:=aa;have k5':¬5000=kk:=aa;by_cases hlt:i<l.length
 ·rw[yX hlt]at hp
  have hn:=pn l[i] v;simp[hlt];refine ag.pure (w7 l[i] v (hs _ (aj hlt)) hv) (by simp[k5]) ?_;generalize bn l[i] v=Q at hp hn⊢;obtain⟨x,y,ok⟩:=Q;simp only at hp hn⊢;simp;intro G1 G2
  cases ok with
  | false =>
    simp at hp;rw[hp]at e;simp[e]
  | true =>
    simp only[dk]at hp;simp;intro b6;refine⟨aa,λH=>Ent.refl ⟨i+1,L++[x],y,449,⟨.inr rfl,⟨aa,aM⟩,aa,?_⟩,aa,H,G2,?_⟩⟩
    ·rw[hp]
     cases kI (l.drop (i+1)) y<;>simp
    ·exact ng
 ·rw[Bh aa]at hp
  simp only[fq,bI]at hp;rw[hp]at e;simp[hlt,e,k5]
theorem MY(l:List (List Part))(b:List Part):nL a9 (jS l b).1<=2^20:=by
 have key:∀(l:List (List Part)) (v u:List Part),nL a9 v<=2^20->lU l v=some u->nL a9 u<=2^20:=by
  intro l
  induction l with
  |nil=>intro v u h1 h2;simp only[lU,ez]at h2;exact h2 ▸ h1
  | cons a l ih =>
    intro v u h1 h2;rw[lU]at h2
    split at h2
    ·exact ih _ u (by have:=pn a v;omega) h2
    ·cases h2
 unfold jS
 split
 ·cases h:lU l (dz b)with
  |none=>simp[nL,cw]
  |some v=>exact key l _ v (ug b) h
 ·simp[nL,cw]
theorem Ih(l:List (List Part))(b:List Part)(hl:l.length<=2^30)(hs:∀o∈l,nL a9 o<=2^40)(hb:nL a9 b<=2^40):ar Tryz.prog 259 [.c (.s (l.map iy)),.c (.s (b.map Part.row))]
 (.tup [.c (.s ((jS l b).1.map Part.row)) 3,.c (.v (.bool (jS l b).2)) 1]):=by
 refine pci aw Tryz.func259 (λw0 base=>?_);simp;refine ag.pure (F0 l b hl hs hb) ab ?_;rw[<-zq];generalize iz l b=Q;obtain⟨x,y,ok⟩:=Q;simp
theorem Fi(l:List (List Part))(b:List Part)(hl:l.length<=2^30)(hs:∀o∈l,nL a9 o<=2^40)(hb:nL a9 b<=2^40):ar Tryz.prog 267 [.c (.s (l.map iy)),.c (.s (b.map Part.row))]
 (.tup [.c (.s ((iz l b).1.map iy)) 1,.c (.s ((iz l b).2.1.map Part.row)) 3,.c (.v (.bool (iz l b).2.2)) 1]):=by
 refine pci aw Tryz.func267 (λw0 base=>?_);simp;refine ag.pure (gD b hb) ab ?_;by_cases c1:dv b
 rotate_left
 ·have e:iz l b=([],[],false):=by unfold iz;rw[au c1]
  simp[az c1,e]
 have e:iz l b=match kI l (dz b)with
  |some r=>(r.1,r.2,true)
  |none=>([],[],false):=by unfold iz;rw[ao c1]
 simp[c1];intro b9;refine ag.pure (tY b hb) ab ?_;simp;intro H0
 refine aH eok (λx:(Nat×List (List Part)×List Part×Nat)×Hd×Hd=>(x.1.2.2.2=304\/x.1.2.2.2=465)/\(x.1.1<=l.length/\x.1.2.1.length=x.1.1)/\nL a9 x.1.2.2.1<=2^40/\kI l (dz b)=(kI (l.drop x.1.1) x.1.2.2.1).map (λr=>(x.1.2.1++r.1,r.2)))
  (λx=>⟨43,0,[(22,.v (.int .i64 x.1.1)),(21,.v (.int .i64 l.length)),(20,.ro (l.map iy)),(8,.sl x.1.2.2.2 x.2.2 3 0 x.1.2.2.1.length),(7,.sl 272 x.2.1 1 0 x.1.2.1.length)],
   [(272,.rows x.2.1 1 (x.1.2.1.map iy) true),(x.1.2.2.2,.rows x.2.2 3 (x.1.2.2.1.map Part.row) true)]⟩) (λx=>l.length-x.1.1) ((0,[],dz b,304),some (b9,0,0),H0) ⟨.inl rfl,ab,by have:=ug b;simp only;omega,ab⟩ ab (λx hx=>Ent.refl ?_)
 obtain⟨⟨i,L,v,kk⟩,H1,H2⟩:=x;obtain⟨hk,⟨hi,hLl⟩,hv,hp⟩:=hx;simp only at hk hi hLl hv hp⊢;have k5:¬kk=272:=aa;have k5':¬272=kk:=aa;by_cases hlt:i<l.length
 ·rw[yX hlt]at hp
  have hn:=pn l[i] v;simp[hlt];refine ag.pure (wX l[i] v (hs _ (aj hlt)) hv) (by simp[k5]) ?_;generalize bn l[i] v=Q at hp hn⊢;obtain⟨x,y,ok⟩:=Q;simp only at hp hn⊢;simp;intro G1 G2
  cases ok with
  | false =>
    simp at hp;rw[hp]at e;simp[e]
  | true =>
    simp only[dk]at hp;simp;intro b6;refine⟨aa,λH=>Ent.refl ⟨i+1,L++[x],y,465,⟨.inr rfl,⟨aa,aM⟩,aa,?_⟩,aa,H,G2,?_⟩⟩
    ·rw[hp]
     cases kI (l.drop (i+1)) y<;>simp
    ·exact ng
 ·rw[Bh aa]at hp
  simp only[fq,bI]at hp;rw[hp]at e;simp[hlt,e,k5]
theorem G7(l:List (List Part))(b:List Part)(hl:l.length<=2^30)(hs:∀o∈l,nL a9 o<=2^40)(hb:nL a9 b<=2^40):ar Tryz.prog 250 [.c (.s (l.map iy)),.c (.s (b.map Part.row))]
 (.tup [.c (.s ((jS l b).1.map Part.row)) 3,.c (.v (.bool (jS l b).2)) 1]):=by
 refine pci aw Tryz.func250 (λw0 base=>?_);simp;refine ag.pure (Fi l b hl hs hb) ab ?_;rw[<-zq];generalize iz l b=Q;obtain⟨x,y,ok⟩:=Q;simp
noncomputable def EL(d:Doc)(rev:Int):Int:=if aB d<rev then 2 else if rev<d.fr then 3 else 0
theorem Gy(d:Doc)(rev:Int):ar Tryz.prog 238 [.agg d.row,.c (vi rev)] (.one (.c (vi (EL d rev)) 1)):=by
 refine pci aw Tryz.func238 (λw0 base=>?_);simp[Doc.row];intro b;refine ag.pure (cD d) bo ?_;unfold EL;by_cases c1:aB d<rev
 ·simp[c1]
 ·by_cases c2:rev<d.fr
  ·simp[c1,c2]
  ·simp[c1,c2]
open Classical in
noncomputable def lC(d:Doc)(rev:Int):List (List Part)×Bool:=if bQ d/\d.fr<=rev/\rev<=aB d then((d.list.drop (rev-d.fr).toNat).map Entry.o,true)else([],false)
theorem v9{d:Doc}{rev:Int}(h:¬(bQ d/\d.fr<=rev/\rev<=aB d)):lC d rev=([],false):=by unfold lC;rw[au h]
theorem mh{d:Doc}{rev:Int}(h:bQ d/\d.fr<=rev/\rev<=aB d):lC d rev=((d.list.drop (rev-d.fr).toNat).map Entry.o,true):=by unfold lC;rw[ao h]
theorem yD{α:Type}{f:α->Nat}:∀(l:List α) (k:Nat),cw f (l.drop k)<=cw f l
 | [],k=>ab
 |a::l,0=>ab
 |a::l,k+1=>by have:=yD (f:=f) l k;simp only[List.drop_succ_cons,cw];omega
theorem uk{α:Type}{f:α->Nat}{l:List α}{k B:Nat}(h:nL f l<=B):nL f (l.drop k)<=B:=by
 have:=yD (f:=f) l k;unfold nL at *;simp only[iW];omega
theorem kT{l:List Entry}{k:Nat}(_h:k<=l.length):cut (l.map Entry.row) k (l.length-k)=(l.drop k).map Entry.row:=by
 unfold cut
 split
 ·rename_i h1
  rw[h1.1];simp
 ·rw[<-tF,aC ab]
theorem zh(d:Doc)(hl:cB d<=2^30)(rev:Int):ar Tryz.prog 258 [.agg d.row,.c (vi rev)] (.tup [.c (.s ((lC d rev).1.map iy)) 1,.c (.v (.bool (lC d rev).2)) 1]):=by
 refine pci aw Tryz.func258 (λw0 base=>?_);obtain⟨n1,n2,n3,n4⟩:=dX hl;simp[Doc.row];intro b2;refine aZ.quiet eok mix al ?_;simp;refine⟨_,_,iR d hl,bo,?_⟩;by_cases c1:bQ d
 rotate_left
 ·exact JM
 simp[c1];refine⟨_,_,cD d,bo,?_⟩;simp;refine⟨_,_,bT rev d.fr (aB d),ab,?_⟩;by_cases c2:d.fr<=rev/\rev<=aB d
 rotate_left
 ·exact JL
 have e:=mh ⟨c1,c2⟩;have hh:=dg c1;obtain⟨k,hk⟩:∃k:Nat,rev-d.fr=k:=⟨(rev-d.fr).toNat,aa⟩;have hkl:k<=d.list.length:=aa;have ew:Go.IntKind.i64.wrap (rev-d.fr)=(k:Int):=by rw[ae _ aa];omega
 rw[hk]at e;simp only[cJ]at e;simp[c2,ew,hkl,kT hkl];refine ag.pure (DQ (d.list.drop k) (uk n1)) ab ?_;simp[e];intro row h;have:=ba h;exact xR
theorem yJ(d:Doc)(hl:cB d<=2^30)(rev:Int):ar Tryz.prog 249 [.agg d.row,.c (vi rev)] (.tup [.c (.s ((lC d rev).1.map iy)) 1,.c (.v (.bool (lC d rev).2)) 1]):=by
 refine pci aw Tryz.func249 (λw0 base=>?_);obtain⟨n1,n2,n3,n4⟩:=dX hl;simp[Doc.row];intro b2;refine aZ.quiet eok mix al ?_;simp;refine⟨_,_,iL d hl,bo,?_⟩;by_cases c1:bQ d
 rotate_left
 ·exact JM
 simp[c1];refine⟨_,_,cC d,bo,?_⟩;simp;refine⟨_,_,cG rev d.fr (aB d),ab,?_⟩;by_cases c2:d.fr<=rev/\rev<=aB d
 rotate_left
 ·exact JL
 have e:=mh ⟨c1,c2⟩;have hh:=dg c1;obtain⟨k,hk⟩:∃k:Nat,rev-d.fr=k:=⟨(rev-d.fr).toNat,aa⟩;have hkl:k<=d.list.length:=aa;have ew:Go.IntKind.i64.wrap (rev-d.fr)=(k:Int):=by rw[ae _ aa];omega
 rw[hk]at e;simp only[cJ]at e;simp[c2,ew,hkl,kT hkl];intro b21;obtain⟨l,hl'⟩:∃l,d.list.drop k=l:=⟨_,rfl⟩;have hn:nL aX l<=2^30:=hl' ▸ uk n1;have hll:d.list.length-k=l.length:=by rw[<-hl'];simp
 have hle:=aY hn;rw[hl']at e;simp only[<-tF,hl',hll];refine aH eok (λx:Nat×Hd=>x.1<=l.length) (λx=>⟨42,0,[(30,.v (.int .i64 x.1)),(29,.v (.int .i64 l.length)),(28,.ro (l.map Entry.row)),(6,.sl 336 x.2 1 0 x.1)],[(336,.rows x.2 1 (((l.take x.1).map Entry.o).map iy) true)]⟩) (λx=>l.length-x.1) (0,some (b21,0,0)) ab ab (λx hx=>Ent.refl ?_);obtain⟨i,H⟩:=x;simp only at hx⊢;by_cases hlt:i<l.length
 ·have hm:=cH hn hlt
  unfold aX at hm;simp[hlt,Entry.row];intro b5;refine ag.pure (vv l[i].o hm) ab ?_;exact LA
 ·have e2:l.length=i:=by omega
  simp[hlt,e];have e1:i<=min i l.length:=aa;refine⟨e1,?_,?_⟩
  ·intro row hr
   have:=bu hr;exact xR
  ·rw[aC aM]
   simp[cut,e2]
theorem zw(l:List Entry)(k:Nat):∀row∈List.drop k (List.map Entry.row l),row.length=3:=by
 intro row h;have:=ba h;exact xR
open Classical in
theorem BG{d:Doc}{rev:Int}(h:¬bQ d):kF d rev=([],1):=by unfold kF;rw[au h]
theorem zt{d:Doc}{rev:Int}(h:bQ d):kF d rev=if aB d<rev then([],2)else if rev<d.fr then([],3)else(d.list.drop (rev-d.fr).toNat,0):=by unfold kF;rw[ao h]
theorem F4(d:Doc)(hl:cB d<=2^30)(rev:Int):ar Tryz.prog 201 [.agg d.row,.c (vi rev)] (.tup [.c (.s ((kF d rev).1.map Entry.row)) 3,.c (vi (kF d rev).2) 1]):=by
 refine pci aw Tryz.func201 (λw0 base=>?_);obtain⟨n1,n2,n3,n4⟩:=dX hl;simp[Doc.row];intro b2;refine ag.pure (iR d hl) bo ?_;by_cases c1:bQ d
 rotate_left
 ·simp[az c1,BG c1]
 have e:=zt (rev:=rev) c1;simp[c1];refine ag.pure (Gy d rev) bo ?_;unfold EL;by_cases c2:aB d<rev
 ·simp[c2,e]
 by_cases c3:rev<d.fr
 ·simp[c2,c3,e]
 have hh:=dg c1;obtain⟨k,hk⟩:∃k:Nat,rev-d.fr=k:=⟨(rev-d.fr).toNat,aa⟩;have hkl:k<=d.list.length:=aa;have ew:Go.IntKind.i64.wrap (rev-d.fr)=(k:Int):=by rw[ae _ aa];omega
 simp only[c2,c3,dm,hk,cJ]at e;simp[c2,c3,ew,hkl,kT hkl];refine ag.pure (jo (d.list.drop k) (uk n1)) ab ?_;simp[e];exact zw _ _
theorem Fk(d:Doc)(hl:cB d<=2^30)(rev:Int):ar Tryz.prog 174 [.agg d.row,.c (vi rev)] (.tup [.c (.s ((kF d rev).1.map Entry.row)) 3,.c (vi (kF d rev).2) 1]):=by
 refine pci aw Tryz.func174 (λw0 base=>?_);obtain⟨n1,n2,n3,n4⟩:=dX hl;simp[Doc.row];intro b2;refine ag.pure (iL d hl) bo ?_;by_cases c1:bQ d
 rotate_left
 ·simp[az c1,BG c1]
 have e:=zt (rev:=rev) c1;simp[c1];refine ag.pure (cC d) bo ?_;by_cases c2:aB d<rev
 ·simp[c2,e]
 by_cases c3:rev<d.fr
 ·simp[c2,c3,e]
 have hh:=dg c1;obtain⟨k,hk⟩:∃k:Nat,rev-d.fr=k:=⟨(rev-d.fr).toNat,aa⟩;have hkl:k<=d.list.length:=aa;have ew:Go.IntKind.i64.wrap (rev-d.fr)=(k:Int):=by rw[ae _ aa];omega
 simp only[c2,c3,dm,hk,cJ]at e;simp[c2,c3,ew,hkl,kT hkl];refine ag.pure (gm (d.list.drop k) (uk n1)) ab ?_;simp[e];exact zw _ _
theorem mE(d:Doc)(hl:cB d<=2^30):ar Tryz.prog 173 [.agg d.row] (.one (.c (.s ((eL d).map aI)) 1)):=by
 refine pci aw Tryz.func173 (λw0 base=>?_);simp[Doc.row];intro b2;refine drw eok mix [0,1] [2,3,4,5,6,7,8] (.c 2 2 1 2 (.c 2 3 2 0 (.c 2 4 0 0 (.c 2 5 0 0 (.c 2 6 0 0 (.c 2 7 0 0 (.c 2 8 0 0 (.l 2 0) .s) .s) .s) .s) .s) .s) .s) ?_;simp
 try intros
 refine ag.pure (cC d) bo ?_;simp
 try intros
 refine ag.pure (tX d hl (aB d)) bo ?_;simp
 try intros
 simp[eL]
theorem qj(d:Doc)(hl:cB d<=2^30):ar Tryz.prog 200 [.agg d.row] (.one (.c (.s ((eL d).map aI)) 1)):=by
 refine pci aw Tryz.func200 (λw0 base=>?_);simp[Doc.row];intro b2;refine drw eok mix [0,1] [2,3,4,5,6,7,8] (.c 2 2 1 2 (.c 2 3 2 0 (.c 2 4 0 0 (.c 2 5 0 0 (.c 2 6 0 0 (.c 2 7 0 0 (.c 2 8 0 0 (.l 2 0) .s) .s) .s) .s) .s) .s) .s) ?_;simp
 try intros
 refine ag.pure (cD d) bo ?_;simp
 try intros
 refine ag.pure (uy d hl (aB d)) bo ?_;simp
 try intros
 simp[eL]
theorem zp{d:Doc}{base:Int}{o:List Part}(h:¬(bQ d/\dv o)):eJ d base o=([],1):=by unfold eJ;rw[au h]
theorem wu{d:Doc}{base:Int}{o:List Part}(h:bQ d/\dv o):eJ d base o=if aB d<base then([],2)else if base<d.fr then([],3)else
 if cQ o=(gS d base).1.length then
  if(jS ((d.list.drop (base-d.fr).toNat).map Entry.o) o).2=true then((jS ((d.list.drop (base-d.fr).toNat).map Entry.o) o).1,0)else([],5)
 else([],1):=by unfold eJ;rw[ao h]
theorem Ea(d:Doc)(hl:cB d<=2^30)(base:Int)(o:List Part)(ho:nL a9 o<=2^40):ar Tryz.prog 235 [.agg d.row,.c (vi base),.c (.s (o.map Part.row))] (.tup [.c (.s ((eJ d base o).1.map Part.row)) 3,.c (vi (eJ d base o).2) 1]):=by
 refine pci aw Tryz.func235 (λw0 bs=>?_);obtain⟨n1,n2,n3,n4⟩:=dX hl;simp[Doc.row];intro b3;refine ag.pure (iR d hl) bo ?_;by_cases c1:bQ d
 rotate_left
 ·exact JF
 simp[c1];refine ag.pure (gJ o ho) ab ?_;by_cases c2:dv o
 rotate_left
 ·exact JE
 have e:=wu (base:=base) ⟨c1,c2⟩;simp[c2];refine ag.pure (Gy d base) bo ?_;unfold EL;by_cases c3:aB d<base
 ·simp[c3,e]
 by_cases c4:base<d.fr
 ·simp[c3,c4,e]
 have hh:=dg c1;have c5:bQ d/\d.fr<=base/\base<=aB d:=⟨c1,aa,aa⟩;have hops:=mh c5;simp only[c3,c4,dm]at e;simp[c3,c4];refine ag.pure (uy d hl base) bo ?_;generalize gS d base=T at e⊢;obtain⟨t,ok⟩:=T;simp only at e⊢;simp;intro H1;refine ag.pure (kC o ho) ab ?_;by_cases c6:cQ o=t.length
 rotate_left
 ·simp only[c6,dm]at e
  simp[c6,e]
 simp only[c6,dk]at e;simp[c6];refine ag.pure (zh d hl base) bo ?_;rw[hops];generalize hL:(d.list.drop (base-d.fr).toNat)=L at e⊢;have hL1:L.length<=d.list.length:=by rw[<-hL];simp
 have hle:=aY n1
 have hs:∀q∈L.map Entry.o,nL a9 q<=2^40:=λq hq=>by
  exact Ki
 simp;intro H2;refine ag.pure (Ih (L.map Entry.o) o aM hs ho) ab ?_;generalize jS (L.map Entry.o) o=P at e⊢;obtain⟨v,ok2⟩:=P;simp only at e⊢
 cases ok2 with
 |false=>simp at e;simp[e]
 |true=>simp at e;simp[e]
theorem DB(d:Doc)(hl:cB d<=2^30)(base:Int)(o:List Part)(ho:nL a9 o<=2^40):ar Tryz.prog 221 [.agg d.row,.c (vi base),.c (.s (o.map Part.row))] (.tup [.c (.s ((eJ d base o).1.map Part.row)) 3,.c (vi (eJ d base o).2) 1]):=by
 refine pci aw Tryz.func221 (λw0 bs=>?_);obtain⟨n1,n2,n3,n4⟩:=dX hl;simp[Doc.row];intro b3;refine ag.pure (iL d hl) bo ?_;by_cases c1:bQ d
 rotate_left
 ·exact JF
 simp[c1];refine ag.pure (gD o ho) ab ?_;by_cases c2:dv o
 rotate_left
 ·exact JE
 have e:=wu (base:=base) ⟨c1,c2⟩;simp[c2];refine ag.pure (cC d) bo ?_;by_cases c3:aB d<base
 ·simp[c3,e]
 by_cases c4:base<d.fr
 ·simp[c3,c4,e]
 have hh:=dg c1;have c5:bQ d/\d.fr<=base/\base<=aB d:=⟨c1,aa,aa⟩;have hops:=mh c5;have hfit:=uG (o:=o) c1 c2 c5.2.1 c5.2.2;simp only[c3,c4,dm]at e;simp[c3,c4];refine ag.pure (tX d hl base) bo ?_;generalize gS d base=T at e hfit⊢;obtain⟨t,ok⟩:=T;simp only at e hfit⊢;simp;intro H1;refine ag.pure (kj o ho) ab ?_;by_cases c6:cQ o=t.length
 rotate_left
 ·simp only[c6,dm]at e
  simp[c6,e]
 simp only[c6,dk,true_implies]at e hfit;simp[c6];refine ag.pure (yJ d hl base) bo ?_;rw[hops];generalize hL:(d.list.drop (base-d.fr).toNat)=L at e hfit⊢;have hL1:L.length<=d.list.length:=by rw[<-hL];simp
 have hle:=aY n1
 have hs:∀q∈L.map Entry.o,nL a9 q<=2^40:=λq hq=>by
  exact Ki
 have hpn:=MY (L.map Entry.o) o;simp;intro H2;refine ag.pure (G7 (L.map Entry.o) o aM hs ho) ab ?_;generalize jS (L.map Entry.o) o=P at e hfit hpn⊢;obtain⟨v,ok2⟩:=P;simp only at e hfit hpn⊢
 cases ok2 with
 |false=>simp at e;simp[e]
 | true =>
   have hf:=hfit rfl;have ht:=hf.2.1.1;simp at e;simp[e];intro H3;refine ag.pure (mE d hl) bo ?_;simp;intro H4;refine ag.pure (lz v (eL d) aa aa) ab ?_;have ha:=mz.2 hf;generalize apply v (eL d)=A at ha⊢;obtain⟨u,ok3⟩:=A;simp only at ha;subst ha;simp
end Go.Proofs.YtklblkobegcljaaGreat
namespace Go.AM
open Go.RowKit
def Zk(w:World)(s:Value)(n sz:Nat)(us:List Value)(ob:Option Nat):Prop:=
 (n=0/\ob=none/\∃a,s=.slice a 0 0)\/∃b o C cs T,ob=some b/\s=.slice (some ⟨b,o,none⟩) n C/\w.heap[b]? = some (.cells cs T (0,0))/\n<=C/\C<=maxLen/\o+C*sz<=cs.size /\
  (∀j,j<n*sz->cs.getD (o+j) undef=us.getD j undef)/\∀v∈us,v.oneCell'=true
structure Placed(w w':World)(ob:Option Nat)(nb no nC n sz:Nat)(us:List Value):Prop where
 at_:∃cs T,w'.heap[nb]? = some (.cells cs T (0,0))/\no+nC*sz<=cs.size/\∀j,j<n*sz->cs.getD (no+j) undef=us.getD j undef
 le:n<=nC
 cap:nC<=maxLen
 size:w.heap.size<=w'.heap.size
 same:Same w w'
 blk:w.heap.size<=nb\/ob=some nb
 frame:∀c,c<w.heap.size->c≠nb->w'.heap[c]? = w.heap[c]?
def yr(P:Program)(f sz bytes:Nat):Prop:=xe P f/\∀(w:World) (us xs:List Value) (n i:Nat) (s v:Value) (ob bv:Option Nat),us.length=n*sz->xs.length=sz->i<=n->(n+1)*bytes<=140737488355328 ->
 Zk w s n sz us ob->Zk w v 1 sz xs bv->(∀b,ob=some b->bv≠some b) ->
 Calls P f #[s,.int .i64 i,v] w λe w'=>∃nb no nC,e=.returned (.slice (some ⟨nb,no,none⟩) (n+1) nC)/\Placed w w' ob nb no nC (n+1) sz (us.take (i*sz)++xs++us.drop (i*sz))
theorem Mt{w:World}{M E:Nat->Prop}{H:Hd}{sz:Nat}{rows:List (List CD)}{own:Bool}(ho:eY w M E (.rows H sz rows own)){s:Value}(hs:SlV H sz 0 rows.length s) :
 ∃ us : List Value, us.length = rows.length * sz /\ Zk w s rows.length sz us (AObj.blk (.rows H sz rows own)) /\
   ∃ F : Nat -> Nat -> Nat -> Prop, (∀ i j c, F i j c -> (own = true -> E c) /\ ¬ M c) /\ (own = true -> ∀ i j i' j' c, F i j c -> F i' j' c -> i = i' /\ j = j') /\ (∀ row ∈ rows, row.length = sz) /\
     (∀i j row d,rows[i]? = some row->row[j]? = some d->Rd w own (F i j) (us.getD (i*sz+j) undef) d):=by
 cases H with
 | none =>
   obtain⟨⟨a,rfl⟩,h0⟩:=hs;have hr:rows=[]:=ho;subst hr;exact⟨[],ab,.inl ⟨rfl,rfl,a,rfl⟩,λ_ _ _=>False,ab,ab,ab,ab⟩
 | some q =>
   obtain⟨b,o,C⟩:=q;obtain⟨cs,T,F,hb,hl,hC,hsz,hfit,hrl,hF,hd,hr⟩:=ho;rcases hs with⟨rfl,hle⟩|⟨-,h0,-⟩
   ·have hmm:rows.length*sz<=C*sz:=aq _ hl
    have lt:∀i j,i<rows.length->j<sz->i*sz+j<rows.length*sz:=by
     exact Jj
    have hg:∀j,j<rows.length*sz->((List.range (rows.length*sz)).map λj=>cs.getD (o+j) undef).getD j undef=cs.getD (o+j) undef:=by
     intro j hj;simp[hj]
    refine⟨(List.range (rows.length*sz)).map λj=>cs.getD (o+j) undef,ab,.inr ⟨b,o,C,cs,T,rfl,ab,hb,hl,hC,hfit,λj hj=>(hg j hj).symm,?_⟩,F,hF,hd,hrl,?_⟩
    ·intro v hv
     simp only[cF,eZ]at hv;obtain⟨j,hj,rfl⟩:=hv;have hi:j / sz<rows.length:=(yt hsz).2 hj;have hjj:j % sz<sz:=E6 _ hsz;have:=hr (j / sz) (j % sz) _ _ (ak hi) (ak (by rw[hrl _ (aj hi)];exact hjj));have e:j / sz*sz+j % sz=j:=by rw[GR];exact Ps j sz
     rw[e]at this;exact Hm this
    ·intro i j row d hi hj
     have h1:i<rows.length:=(an.1 hi).1;have h2:j<sz:=tP;rw[hg _ (lt i j h1 h2)];exact hr i j row d hi hj
   ·omega
theorem Rep.place{w0:World}{base:Bs}{st:ASt}{a:Act}{w w':World}(hR:Rep w0 base st a w){h':AH}{E':Nat->Nat->Prop}(H':HRel base h' w E')(tr:Tr st.h.M w h'.M w){k:Nat}{ob:Option Nat}(hob:(h'.get k).blk=ob)
 {nb no nC sz:Nat}{us:List Value}{rows:List (List CD)}(own:Bool) (hp:Placed w w' ob nb no nC rows.length sz us) (hsz:0<sz) (hrl:∀row∈rows,row.length=sz) (F:Nat->Nat->Nat->Prop)
 (hr:∀i j row d,rows[i]? = some row->row[j]? = some d->Rd w own (F i j) (us.getD (i*sz+j) undef) d) (hF:∀i j c,F i j c->¬h'.M c)
 (hown:own=true->∀i j c,F i j c->¬base.G c/\∀q,q≠k->¬E' q c) (hinj:own=true->∀i j i' j' c,F i j c->F i' j' c->i=i'/\j=j') :
 Moved w0 base st a w ((k,.rows (some (nb,no,nC)) sz rows own)::h') w':=by
 obtain⟨cs,T,hb,hfit,hcs⟩:=hp.at_
 have hnb:∀c,c<w.heap.size->c=nb->(h'.get k).blk=some c:=by
  intro c hc e;subst e;rcases hp.blk with h|h
  ·omega
  ·rw[hob];exact h
 have hfr:∀c,c<w.heap.size->(¬h'.M c\/∃j,j≠k/\(h'.get j).blk=some c)->w'.heap[c]? = w.heap[c]?:=by
  intro c hc h;refine hp.frame c hc (λe=>?_);have hk:=hnb c hc e;rcases h with h|⟨j,hne,hj⟩
  ·exact h ⟨k,hk⟩
  ·exact hne (H'.inj _ _ _ hj hk)
 have t:Tr h'.M w (AH.M ((k,.rows (some (nb,no,nC)) sz rows own)::h')) w':=Tr.upd H' hp.size (λc hc hM=>hfr c hc (.inl hM)) (λc hc=>by
  simp[AObj.blk]at hc;subst hc;rcases hp.blk with h|h
  ·exact .inl h
  ·exact .inr (by rw[hob];exact h))
 have lt:∀i j,i<rows.length->j<sz->i*sz+j<rows.length*sz:=by
  exact Jj
 refine(hR.move H' tr ⟨rfl,rfl,rfl⟩).move (H'.upd (Ek:=λc=>own=true/\c<w.heap.size/\∃i j,F i j c) hp.size hfr (λc hc=>?_)
  ⟨cs,T,λi j c=>c<w.heap.size/\F i j c,hb,hp.le,hp.cap,hsz,hfit,hrl,?_,?_,?_⟩ ?_) t hp.same
 ·simp[AObj.blk]at hc
  subst hc;rcases hp.blk with h|h
  ·exact⟨hR.newer h,.inl h⟩
  ·have hk:(h'.get k).blk=some nb:=by rw[hob];exact h
   exact⟨H'.low k _ hk,.inr hk⟩
 ·rintro i j c ⟨hlt,hc⟩
  exact⟨λho=>⟨ho,hlt,i,j,hc⟩,λhM=>hF i j c hc (t.mono c hlt hM)⟩
 ·rintro ho i j i' j' c ⟨-,hc⟩ ⟨-,hc'⟩
  exact hinj ho i j i' j' c hc hc'
 ·intro i j row d hi hj
  have h1:i<rows.length:=(an.1 hi).1;have h2:j<sz:=tP;rw[hcs _ (lt i j h1 h2)];exact(hr i j row d hi hj).map (λc hc hl=>hfr c hl (.inl (hF i j c hc))) (λc hc hl=>⟨hl,hc⟩)
 ·rintro c ⟨ho,hlt,i,j,hc⟩
  obtain⟨h1,h2⟩:=hown ho i j c hc;exact⟨h1,bV hlt hp.size,h2,λhM=>hF i j c hc (t.mono c hlt hM)⟩
theorem UC{us xs:List Value}{n i sz:Nat}(hu:us.length=n*sz)(hx:xs.length=sz)(hi:i<=n)(r j:Nat)(_hr:r<n+1)(hj:j<sz) :
 (us.take (i*sz)++xs++us.drop (i*sz)).getD (r*sz+j) undef=if r<i then us.getD (r*sz+j) undef else if r=i then xs.getD j undef else us.getD ((r-1)*sz+j) undef:=by
 have h1:i*sz<=n*sz:=aq _ hi;have hl:(us.take (i*sz)).length=i*sz:=aM;simp only[aS];rw[bX];by_cases c1:r<i
 ·have h2:(r+1)*sz<=i*sz:=aq _ c1
  rw[bD]at h2;rw[ao c1,cX aa,cN,ao aa]
 ·have h2:i*sz<=r*sz:=aq _ aa
  rw[au c1,bd aa,hl];by_cases c2:r=i
  ·subst c2
   rw[ao rfl,cX aa]
   congr 2
   omega
  ·have h3:(i+1)*sz<=r*sz:=aq _ aa
   have h4:r*sz=(r-1)*sz+sz:=by rw[<-bD];congr 1;omega
   rw[bD]at h3;rw[au c2,bd aa,hx,dR]
   congr 2
   omega
theorem gw{E:Env}{f sz bytes:Nat}(hc:yr E.P f sz bytes)(hz:0<sz){st:ASt}{dst:Option Nat}{K:ASt->Prop}{k kv:Nat}{H Hv:Hd}{rows:List (List CD)}{row:List CD}{own ownv:Bool}{i n:Nat}(hn:rows.length=n)
 (hk:st.h.get k=.rows H sz rows own) (hkv:st.h.get kv=.rows Hv sz [row] ownv) (hne:k≠kv) (hi:i<=rows.length) (hb:(rows.length+1)*bytes<=140737488355328)
 (h:∀H',bM { st with h:=(k,.rows H' sz (rows.take i++row::rows.drop i) (own&&ownv))::(kv,.dead)::st.h } dst (.sl k H' sz 0 (n+1)) K) :
 ag E f [.sl k H sz 0 n,.v (.int .i64 i),.sl kv Hv sz 0 1] st dst K:=by
 subst hn;refine⟨hc.1,λa w hR xs hxs hargs=>?_⟩
 obtain⟨s,iv,v,rfl⟩:∃s iv v,xs = #[s,iv,v]:=by
  obtain⟨l⟩:=xs
  match l,hxs with
  | [s,iv,v],_=>exact⟨s,iv,v,rfl⟩
 have e0:=hargs 0 _ rfl;have e1:=hargs 1 _ rfl;have e2:=hargs 2 _ rfl;simp at e0 e1 e2
 cases e0 with|sl _ _ _ _ _ _ hs0=>
 cases e1 with|v _ _=>
 cases e2 with|sl _ _ _ _ _ _ hs2=>
 obtain⟨E0,H0⟩:=hR.heap;have ho:=H0.obj k;have hov:=H0.obj kv;rw[hk]at ho;rw[hkv]at hov;obtain⟨us,hul,hsa,F,hF,hd,hrl,hr⟩:=Mt ho hs0;obtain⟨vs,hvl,hsv,Fv,hFv,hdv,hrlv,hrv⟩:=Mt hov hs2;simp at hvl
 have hap:∀b,AObj.blk (.rows H sz rows own)=some b->AObj.blk (.rows Hv sz [row] ownv)≠some b:=by
  intro b h1 h2;exact hne (H0.inj k kv b (by rw[hk];exact h1) (by rw[hkv];exact h2))
 refine(hc.2 w us vs rows.length i s v _ _ hul hvl hi hb hsa hsv hap).mono ?_
 rintro e w' ⟨nb,no,nC,rfl,hp⟩
 have hlen:(rows.take i++row::rows.drop i).length=rows.length+1:=aM;rw[<-hlen]at hp;have kill:=H0.kill kv;have hrow:row.length=sz:=hrlv row ab;have low:∀c,E0 k c\/E0 kv c->¬E.base.G c:=λc hc=>hc.elim (λh=>(H0.elow k c h).1) (λh=>(H0.elow kv c h).1)
 have getr:∀r q,(rows.take i++row::rows.drop i)[r]? = some q->(r<i/\rows[r]? = some q)\/(r=i/\q=row)\/(i<r/\rows[r-1]? = some q):=by
  intro r q hq;have hti:(rows.take i).length=i:=aM;by_cases c1:r<i
  ·rw[cX aa,cN,ao c1]at hq
   exact .inl ⟨c1,hq⟩
  ·rw[bd aa,hti]at hq
   by_cases c2:r=i
   ·subst c2;simp at hq;exact .inr (.inl ⟨rfl,hq.symm⟩)
   ·obtain⟨m,hm⟩:∃m,r-i=m+1:=⟨r-i-1,aa⟩
    rw[hm,fZ,dR]at hq;refine .inr (.inr ⟨aa,?_⟩);rw[show r-1=i+m from aa];exact hq
 have tk:Tr st.h.M w (AH.M ((kv,.dead)::st.h)) w:=Tr.kill H0 kv;have blkk:(AH.get ((kv,.dead)::st.h) k).blk=AObj.blk (.rows H sz rows own):=by rw[br,au hne,hk]
 have m:=hR.place kill tk blkk (own&&ownv) hp hz (by
  intro q hq;obtain⟨r,hr'⟩:=dQ hq;rcases getr r q hr' with⟨-,g⟩|⟨-,rfl⟩|⟨-,g⟩
  ·exact hrl q (aP g)
  ·exact hrow
  ·exact hrl q (aP g))
  (λr j c=>if r<i then F r j c else if r=i then Fv 0 j c else F (r-1) j c) ?_ ?_ ?_ ?_
 ·obtain⟨av,h',g1,g2,g3,g4⟩:=m.put (VRel.sl k (some (nb,no,nC)) sz 0 (rows.length+1) (.slice (some ⟨nb,no,none⟩) (rows.length+1) nC) (Or.inl ⟨ab,by have:=hp.le;omega⟩)) (h (some (nb,no,nC)))
  exact⟨_,av,h',rfl,g1,g2,g3,g4⟩
 ·intro r j q d hq hj
  have hjl:j<sz:=by
   rcases getr r q hq with⟨-,g⟩|⟨-,rfl⟩|⟨-,g⟩
   ·exact JK
   ·rw[<-hrow];exact(an.1 hj).1
   ·exact JK
  have hrlt:r<rows.length+1:=by rw[<-hlen];exact(an.1 hq).1
  rw[UC hul hvl hi r j hrlt hjl];rcases getr r q hq with⟨c,g⟩|⟨c,rfl⟩|⟨c,g⟩
  ·simp only[c,dk]
   exact el _ (hr r j q d g hj) (λh=>nc)
  ·have c1:¬r<i:=by omega
   simp only[au c1,ao c];have:=hrv 0 j q d rfl hj;rw[Nat.zero_mul,cE]at this;exact el _ this (λh=>oN)
  ·have c1:¬r<i:=by omega
   have c2:¬r=i:=aa;simp only[c1,c2,dm];exact el _ (hr (r-1) j q d g hj) (λh=>nc)
 ·intro r j c hcc hM
  have hM':=EZ hM
  split at hcc
  ·exact(hF _ _ _ hcc).2 hM'
  ·split at hcc
   ·exact(hFv _ _ _ hcc).2 hM'
   ·exact(hF _ _ _ hcc).2 hM'
 ·intro hoo r j c hcc
  simp at hoo
  have hE:E0 k c\/E0 kv c:=by
   split at hcc
   ·exact .inl ((hF _ _ _ hcc).1 hoo.1)
   ·split at hcc
    ·exact .inr ((hFv _ _ _ hcc).1 hoo.2)
    ·exact .inl ((hF _ _ _ hcc).1 hoo.1)
  refine⟨low c hE,λq hq hqe=>?_⟩
  split at hqe
  ·exact hqe
  ·rename_i hqv
   rcases hE with hE|hE
   ·exact hq (H0.einj _ _ _ hqe hE)
   ·exact hqv (H0.einj _ _ _ hqe hE)
 ·intro hoo r j r' j' c hcc hcc'
  simp at hoo;have key:∀i j j',F i j c->Fv 0 j' c->False:=λi j j' h1 h2=>hne (H0.einj _ _ _ ((hF _ _ _ h1).1 hoo.1) ((hFv _ _ _ h2).1 hoo.2))
  split at hcc<;>split at hcc'
  ·exact hd hoo.1 _ _ _ _ c hcc hcc'
  ·split at hcc'
   ·exact(key _ _ _ hcc hcc').elim
   ·have:=hd hoo.1 _ _ _ _ c hcc hcc';omega
  ·split at hcc
   ·exact(key _ _ _ hcc' hcc).elim
   ·have:=hd hoo.1 _ _ _ _ c hcc hcc';omega
  ·split at hcc<;>split at hcc'
   ·have:=hdv hoo.2 _ _ _ _ c hcc hcc';omega
   ·exact(key _ _ _ hcc' hcc).elim
   ·exact(key _ _ _ hcc hcc').elim
   ·have:=hd hoo.1 _ _ _ _ c hcc hcc';omega
theorem ga{P:Program}{w:World}{t ty e:TypeId}{i:TypeInfo}(hu:P.underlying t=some (.slice e))(hi:P.info? e=some i){b o dl dc sl sc:Nat}{cs:Array Value}{T:TypeId}
 (hb:w.heap[b]? = some (.cells cs T (0,0))) (a:Addr) (vs:List Value) (m:Nat) (hm:Nat.min sl dl=m) (hl:vs.length=m*i.size) (hvs:∀j v,vs[j]? = some v->w.cell? (a.add j)=some v) (h1:∀v∈vs,v.oneCell'=true)
 (hfit:o+vs.length<=cs.size) :
 (Builtin.copy_ #[t,t] ty #[.slice (some ⟨b,o,none⟩) dl dc,.slice (some a) sl sc]).run P w=.ok (goInt m) (w.setRow b (cs.toList.take o++vs++cs.toList.drop (o+vs.length)).toArray):=by
 have hf:=lS (P:=P) w i.size m a sl sc vs hl hvs;have hst:=Pr (P:=P) b o T vs 0 cs w hb aa h1;simp only[pT]at hst;simp[Builtin.copy_,bf hu,dO hi,Builtin.lenOf,hm,hf,hst]
theorem fJ{w:World}{b o:Nat}{cs:Array Value}{T:TypeId}(hb:w.heap[b]? = some (.cells cs T (0,0))){vs:List Value}(h:∀j,j<vs.length->cs.getD (o+j) undef=vs.getD j undef)(hfit:o+vs.length<=cs.size) :
 ∀j v,vs[j]? = some v->w.cell? ⟨b,o+j,none⟩=some v:=by
 intro j v hj;obtain⟨hlt,rfl⟩:=an.1 hj;have:=h j hlt;rw[show vs.getD j undef=vs[j] by simp[hlt]]at this;rw[<-this]
 simpa using rX hb (show o+j<cs.size from aa)
theorem B0(w:World){P:Program}{o:Oper}{a:Act}{K:Act->World->Prop}{Q:Exit->Act->World->Prop}(d s:Operand)(t t':TypeId)
 (ho:o.op=.call { callee:=.builtin .copy,args:=#[d,s],argTypes:=#[t,t'] }) (v u:Value) (hd:a.eval d=v) (hs:a.eval s=u) {v':Value}{w':World}
 (hr:(Builtin.copy_ #[t,t'] o.type #[v,u]).run P w=.ok v' w') (h:K (a.put o.dst v') w'):o.wp P a w K Q:=by
 unfold Oper.wp execOp;simp only[ho,resolve,invoke,builtin,eM,fp,cM,List.map_toArray,bK,jg,hd,hs,hr];exact h
theorem kN(w:World){P:Program}{ops:Array Oper}{rest:List Oper}{o:Oper}{a:Act}{Q:Exit->Act->World->Prop}(hgd:o.guard=none)(d s:Operand)(t t':TypeId)
 (ho:o.op=.call { callee:=.builtin .copy,args:=#[d,s],argTypes:=#[t,t'] }) (v u:Value) (hd:a.eval d=v) (hs:a.eval s=u) {v':Value}{w':World}
 (hr:(Builtin.copy_ #[t,t'] o.type #[v,u]).run P w=.ok v' w') (h:wpList P ops Q rest (a.put o.dst v') w'):wpList P ops Q (o::rest) a w:=
 wpList_plain hgd λ_ hK=>B0 w d s t t' ho v u hd hs hr (hK _ _ h)
end Go.AM
namespace Go.Proofs.YtklblkobegcljaaGreat
open Go.AM Go.RowKit
set_option maxRecDepth 100000
set_option maxHeartbeats 4000000
set_option linter.unusedVariables false
set_option linter.unusedSimpArgs false
theorem Ay(w:World)(us xs:List Value)(n i b o C bv ov Cv:Nat)(cs cv:Array Value)(T Tv:TypeId)(hul:us.length=n*3)(hxl:xs.length=3)(hi:i<n)(hroom:n+1<=C)(hC:C<=maxLen)
 (hb:w.heap[b]? = some (.cells cs T (0,0))) (hfit:o+C*3<=cs.size) (hcs:∀j,j<n*3->cs.getD (o+j) undef=us.getD j undef) (h1:∀v∈us,v.oneCell'=true)
 (hbv:w.heap[bv]? = some (.cells cv Tv (0,0))) (hCv:1<=Cv) (hfv:ov+Cv*3<=cv.size) (hcv:∀j,j<3->cv.getD (ov+j) undef=xs.getD j undef) (h1v:∀v∈xs,v.oneCell'=true) (hne:bv≠b) :
 Calls Tryz.prog 236 #[.slice (some ⟨b,o,none⟩) n C,.int .i64 i,.slice (some ⟨bv,ov,none⟩) 1 Cv] w λe w'=>
  e=.returned (.slice (some ⟨b,o,none⟩) (n+1) C)/\Placed w w' (some b) b o C (n+1) 3 (us.take (i*3)++xs++us.drop (i*3)):=by
 have u0:=bf Tryz.underlying117;have mixed:Tryz.prog.follows .mixedOrders=true:=al;obtain⟨i0,z0,hi0,hzs,hzb,hz0,hzc,-⟩:=(aw 196 _ B1).info;have hzs:i0.size=3:=hzs;have hC63:C<=9223372036854775807:=ri;have hz1:¬((1:Int)=0):=aa;have hz2:¬((i:Int)=(n:Int)):=aa;have hdl:(us.drop (i*3)).length=(n-i)*3:=rh
 have hov:∀lb cb,(callFunc 260 #[.slice (some ⟨bv,ov,none⟩) 1 Cv,.slice (some ⟨b,o+(i*3+3),none⟩) lb cb]).run Tryz.prog w=.ok (.value (.bool false)) w:=λlb cb=>by
  rw[GO Tryz.func260 al al al (e:=Extern.SlicesOverlaps.overlaps #[117,117] #[4]) al,
   Ag w 117 4 196 Tryz.underlying117 3 Tryz.sizeOf196 ⟨bv,ov,none⟩ ⟨b,o+(i*3+3),none⟩ 1 Cv lb cb hne Tv T cv.size cs.size (by simp[World.shape?,hbv]) (by simp[World.shape?,hb]) aa rf rf]
  rfl
 have hmm:(n+1)*3<=C*3:=aq _ hroom;have hii:i*3+3<=n*3:=by have:=aq 3 (show i+1<=n from aa);omega
 have e1:(i+1)*3=i*3+3:=bD i 3;have e2:(n+1)*3=n*3+3:=bD n 3;have e3:(n-i)*3=n*3-i*3:=tD n i 3;obtain⟨cs1,hcs1⟩:∃c,c=(cs.toList.take (o+(i+1)*3)++us.drop (i*3)++cs.toList.drop (o+(i+1)*3+(us.drop (i*3)).length)).toArray:=⟨_,rfl⟩;obtain⟨s1,g1⟩:=dy cs (o+(i+1)*3) (us.drop (i*3)) aa;rw[<-hcs1]at s1 g1
 have hcp1:∀(W:World),W.heap=w.heap->∀ty dl dc sl sc,Nat.min sl dl=n-i->(Builtin.copy_ #[117,117] ty #[.slice (some ⟨b,o+(i*3+3),none⟩) dl dc,.slice (some ⟨b,o+i*3,none⟩) sl sc]).run Tryz.prog W=.ok (goInt (n-i:Nat)) (W.setRow b cs1):=λW hW ty dl dc sl sc hm=>by
  have hb':W.heap[b]? = some (.cells cs T (0,0)):=by rw[hW];exact hb
  rw[hcs1,e1]
  exact ga Tryz.underlying117 hi0 hb' ⟨b,o+i*3,none⟩ (us.drop (i*3)) (n-i) hm re
   (λj v hj=>by
    rw[dx];refine fJ hb' (o:=o+i*3) (vs:=us.drop (i*3)) (λj hj=>?_) aa j v hj;rw[eF,hcs _ aa];simp[aS])
   (λv hv=>h1 v (ba hv)) aa
 obtain⟨cs2,hcs2⟩:∃c,c=(cs1.toList.take (o+i*3)++xs++cs1.toList.drop (o+i*3+xs.length)).toArray:=⟨_,rfl⟩;obtain⟨s2,g2⟩:=dy cs1 (o+i*3) xs aa;rw[<-hcs2]at s2 g2
 have hcp2:∀(W:World),W.heap[b]? = some (.cells cs1 T (0,0))->W.heap[bv]? = some (.cells cv Tv (0,0))->∀ty dl dc,0<dl->(Builtin.copy_ #[117,117] ty #[.slice (some ⟨b,o+i*3,none⟩) dl dc,.slice (some ⟨bv,ov,none⟩) 1 Cv]).run Tryz.prog W=.ok (goInt (1:Nat)) (W.setRow b cs2):=λW hW hWv ty dl dc hm=>by
  rw[hcs2]
  exact ga Tryz.underlying117 hi0 hW ⟨bv,ov,none⟩ xs 1 jr gZ
   (λj v hj=>by
    rw[dx];exact fJ hWv (λj hj=>hcv j aa) aa j v hj)
   h1v aa
 have hw1:IntKind.i64.wrap ((i:Int)+1)=(i:Int)+1:=rb;have hb1:(0:Int)<=(i:Int)+1:=aa;have hin:i<=n:=aa;have htn:((i:Int)+1).toNat=i+1:=aa;have hb2:¬(C=i+1):=aa;have hb3:(i:Int)<=(n:Int)+1:=aa;have hb4:¬(C=i):=aa
 go_enter Tryz.func236,Tryz.ntmps236
 go_wp2_with (simp only[hov])
 have hE:=hcp1 w.drew rfl 3 (n-i) (C-(i+1)) (n+1-i) (C-i) jr;have hE2:=hcp2 (w.drew.setRow b cs1) Ci Ch 3 (n+1-i) (C-i) aa
 have hP:Placed w ((w.drew.setRow b cs1).setRow b cs2) (some b) b o C (n+1) 3 (us.take (i*3)++xs++us.drop (i*3)):=by
  refine⟨⟨cs2,T,dK _ b cs1 cs2 T (0,0) (dK w.drew b cs cs1 T (0,0) hb),aa,λj hj=>?_⟩,hroom,hC,ab,⟨rfl,rfl,rfl⟩,.inr rfl,λc _ hc=>?_⟩
  ·rw[g2,g1]
   have hl:(us.take (i*3)).length=i*3:=aM;simp only[aS];rw[bX];by_cases c1:j<i*3
   ·exact De
   ·rw[bd aa,hl]
    by_cases c2:j<i*3+3
    ·exact CK
    ·exact Df
  ·exact CE
 clear hcs1 hcs2
 go_region
 go_wp2
 go_ret
 all_goals exact⟨rfl,hP⟩
theorem qg(w:World)(a:Option Addr)(n C bv ov Cv:Nat)(r:Value)(w1:World)(hnC:n<=C)(hC:C<=maxLen)
 (hr:∀ty,(Builtin.append_ #[117,117] ty #[.slice a n C,.slice (some ⟨bv,ov,none⟩) 1 Cv]).run Tryz.prog w=.ok r w1) :
 Calls Tryz.prog 236 #[.slice a n C,.int .i64 n,.slice (some ⟨bv,ov,none⟩) 1 Cv] w λe w'=>e=.returned r/\w'=w1:=by
 have u0:=bf Tryz.underlying117;have mixed:Tryz.prog.follows .mixedOrders=true:=al;have hC63:C<=9223372036854775807:=ri;have hz1:¬((1:Int)=0):=aa
 cases a with
 | none =>
   exact Jq
 | some q =>
   exact Jq
theorem D3(w:World)(us xs:List Value)(n i b o C bv ov Cv:Nat)(cs cv:Array Value)(T Tv:TypeId)(hul:us.length=n*3)(hxl:xs.length=3)(hi:i<n)(hnc:n<=C)(hroom:C<n+1)(hbig:(n+1)*sm.bytes<=140737488355328)
 (hb:w.heap[b]? = some (.cells cs T (0,0))) (hfit:o+C*3<=cs.size) (hcs:∀j,j<n*3->cs.getD (o+j) undef=us.getD j undef) (h1:∀v∈us,v.oneCell'=true)
 (hbv:w.heap[bv]? = some (.cells cv Tv (0,0))) (hCv:1<=Cv) (hfv:ov+Cv*3<=cv.size) (hcv:∀j,j<3->cv.getD (ov+j) undef=xs.getD j undef) (h1v:∀v∈xs,v.oneCell'=true) :
 Calls Tryz.prog 236 #[.slice (some ⟨b,o,none⟩) n C,.int .i64 i,.slice (some ⟨bv,ov,none⟩) 1 Cv] w λe w'=>
  ∃nC,e=.returned (.slice (some ⟨w.heap.size,0,none⟩) (n+1) nC)/\Placed w w' (some b) w.heap.size 0 nC (n+1) 3 (us.take (i*3)++xs++us.drop (i*3)):=by
 have u0:=bf Tryz.underlying117;have mixed:Tryz.prog.follows .mixedOrders=true:=al;obtain⟨i0,z0,hi0,hzs,hzb,hz0,hzc,-⟩:=(aw 196 _ B1).info;have hzz:=iY hzc;have hzs:i0.size=3:=hzs;have hzb:i0.bytes=sm.bytes:=hzb;have hby:0<sm.bytes:=ah;have hzz:z0.cells.size=3:=hzz;have hnb:(n+1)<=140737488355328:=dW (bY _ hby) hbig;have hz1:¬((1:Int)=0):=aa;have hz2:¬((i:Int)=(n:Int)):=aa;have hz3:(C:Int)<(n:Int)+1:=aa;have hmm:n*3<=C*3:=aq _ hnc;have hii:i*3+3<=n*3:=by have:=aq 3 (show i+1<=n from aa);omega
 have e1:(i+1)*3=i*3+3:=bD i 3;have e2:(n+1)*3=n*3+3:=bD n 3;have e3:(n-i)*3=n*3-i*3:=tD n i 3;have hdl:(us.drop (i*3)).length=(n-i)*3:=rh;have htl:(us.take (i*3)).length=i*3:=aM;have hbw:b<w.heap.size:=fo hb;have hvw:bv<w.heap.size:=fo hbv;have hkk:(n:Int)+1-(i:Int)=((n+1-i:Nat):Int):=aa;have hik:i+(n+1-i)=n+1:=aa
 have hold:(Builtin.firstCells i0.size i (.slice (some ⟨b,o,none⟩) i C)).run Tryz.prog w.drew=.ok (us.take (i*3)).toArray w.drew:=by
  rw[hzs]
  exact lS w.drew 3 i ⟨b,o,none⟩ i C (us.take (i*3)) (by rw[htl]) (λj v hj=>by
   rw[dx]
   exact fJ (w:=w.drew) (o:=o) (vs:=us.take (i*3)) (cs:=cs) (T:=T) hb (λj hj=>by
    rw[hcs _ aa];rw[htl]at hj;simp only[aS,cN,ao hj]) aa j v hj)
 have hrz:∀ty,(Builtin.append_ #[117,3] ty #[.slice (some ⟨b,o,none⟩) i C,.int .i64 ((n:Int)+1-(i:Int))]).run Tryz.prog w =
  .ok (.slice (some ⟨w.heap.size,0,none⟩) (n+1) (grownCap w (n+1) C 196)) (w.drew.alloc (.cells ((us.take (i*3)).toArray++Builtin.zeroCells z0.cells (n+1-i)++Builtin.zeroCells z0.cells (grownCap w (n+1) C 196-(n+1))) 196)):=λty=>by
  have h:=u5 w 117 3 ty 196 i0 z0 .i64 .i64 Tryz.underlying117 Tryz.underlying3 hi0 hz0 (some ⟨b,o,none⟩) i C (us.take (i*3)) hold (n+1-i) aa aa aa aa (by rw[hzb];have:=aq sm.bytes (show n+1-i<=n+1 from aa);omega) Cg;rw[hik]at h;rw[hkk];exact h
 obtain⟨G,hG⟩:∃G,G=grownCap w (n+1) C 196:=⟨_,rfl⟩;obtain⟨ROW,hROW⟩:∃ROW:Array Value,ROW=(us.take (i*3)).toArray++Builtin.zeroCells z0.cells (n+1-i)++Builtin.zeroCells z0.cells (G-(n+1)):=⟨_,rfl⟩;rw[<-hG]at hrz;rw[<-hROW]at hrz;have hGn:n+1<=G:=Cf;have hGm:G<=maxLen:=by rw[hG];exact dr w (n+1) C 196 gP
 have hG63:G<=9223372036854775807:=by unfold maxLen at hGm;omega
 have hRs:ROW.size=G*3:=by
  exact Dd
 have hGK:(n+1)*3<=G*3:=aq _ hGn
 have hRg:∀j,j<i*3->ROW.getD j undef=us.getD j undef:=by
  exact Dn
 obtain⟨W1,hW1⟩:∃W1,W1=w.drew.alloc (.cells ROW 196):=⟨_,rfl⟩;rw[<-hW1]at hrz;have hN:W1.heap[w.heap.size]? = some (.cells ROW 196 (0,0)):=Ce;have hO:∀c,c<w.heap.size->W1.heap[c]? = w.heap[c]?:=λc hc=>Cd
 have hS:W1.heap.size=w.heap.size+1:=by rw[hW1];simp
 obtain⟨cs1,hcs1⟩:∃c,c=(ROW.toList.take (i*3)++xs++ROW.toList.drop (i*3+xs.length)).toArray:=⟨_,rfl⟩;obtain⟨s1,g1⟩:=dy ROW (i*3) xs aa;rw[<-hcs1]at s1 g1
 have hcpA:=ga (P:=Tryz.prog) (w:=W1) (ty:=3) Tryz.underlying117 hi0 (dl:=n+1-i) (dc:=G-i) (o:=i*3) hN ⟨bv,ov,none⟩ (sl:=1) (sc:=Cv) xs 1 jr gZ
  (λj v hj=>by
   rw[dx];exact fJ (by rw[hO _ hvw];exact hbv) (λj hj=>hcv j aa) aa j v hj) h1v aa
 rw[<-hcs1]at hcpA;have hN1:(W1.setRow w.heap.size cs1).heap[w.heap.size]? = some (.cells cs1 196 (0,0)):=dK _ _ _ _ _ _ hN;obtain⟨cs2,hcs2⟩:∃c,c=(cs1.toList.take (i*3+3)++us.drop (i*3)++cs1.toList.drop (i*3+3+(us.drop (i*3)).length)).toArray:=⟨_,rfl⟩;obtain⟨s2,g2⟩:=dy cs1 (i*3+3) (us.drop (i*3)) aa;rw[<-hcs2]at s2 g2;have hbN:b≠w.heap.size:=aa
 have hcpB:=ga (P:=Tryz.prog) (w:=(W1.setRow w.heap.size cs1).drew) (ty:=3) Tryz.underlying117 hi0 (dl:=n-i) (dc:=G-(i+1)) (o:=i*3+3) hN1 ⟨b,o+i*3,none⟩ (sl:=n-i) (sc:=C-i) (us.drop (i*3)) (n-i) jr re
  (λj v hj=>by
   rw[dx]
   have hb':(W1.setRow w.heap.size cs1).drew.heap[b]? = some (.cells cs T (0,0)):=by
    exact C5
   refine fJ hb' (o:=o+i*3) (vs:=us.drop (i*3)) (λj hj=>?_) aa j v hj;rw[eF,hcs _ aa];simp[aS])
  (λv hv=>h1 v (ba hv)) aa
 rw[<-hcs2]at hcpB
 have hP:Placed w ((W1.setRow w.heap.size cs1).drew.setRow w.heap.size cs2) (some b) w.heap.size 0 G (n+1) 3 (us.take (i*3)++xs++us.drop (i*3)):=by
  refine⟨⟨cs2,196,dK _ _ cs1 cs2 _ (0,0) hN1,aa,λj hj=>?_⟩,hGn,hGm,?_,?_,.inl (aF _),λc hc hne=>?_⟩
  ·rw[cE,g2,g1]
   simp only[aS];rw[bX];by_cases c1:j<i*3
   ·exact Di
   ·rw[bd aa,htl]
    by_cases c2:j<i*3+3
    ·exact CQ
    ·exact C9
  ·simp[hS]
  ·rw[hW1];exact⟨rfl,rfl,rfl⟩
  ·exact C8
 have hw1:IntKind.i64.wrap ((i:Int)+1)=(i:Int)+1:=rb;have hb1:(0:Int)<=(i:Int)+1:=aa;have hin:i<=n:=aa;have htn:((i:Int)+1).toNat=i+1:=aa;have hGi:¬(G=i):=aa;have hGim:¬(G=i+1):=aa;have hci:¬(C=i):=aa;have hb3:(i:Int)<=(n:Int):=aa
 clear hkk hik hold hROW hG hcs1 hcs2 hN hN1 hO hS hRs hRg hW1
 go_enter Tryz.func236,Tryz.ntmps236
 go_wp2_with (first
  |(at_builtin;refine AX _ rfl _ _ _ _ rfl _ _ rfl rfl _ _ (hrz _) ?_)
  |(at_builtin;refine kN _ rfl _ _ 117 117 rfl _ _ rfl rfl hcpA ?_))
 go_region
 go_wp2
 go_ret
 all_goals exact⟨_,rfl,hP⟩
theorem Bw:yr Tryz.prog 236 3 sm.bytes:=by
 refine⟨⟨_,Tryz.func236,al,al⟩,λw us xs n i s v ob bv0 hul hxl hi hbig hs hv hap=>?_⟩;obtain⟨i0,z0,hi0,hzs,hzb,hz0,hzc,-⟩:=(aw 196 _ B1).info;have hzz:=iY hzc;have hzs:i0.size=3:=hzs;have hzb:i0.bytes=sm.bytes:=hzb;have hby:0<sm.bytes:=ah;have hzz:z0.cells.size=3:=hzz;have hnb:(n+1)<=140737488355328:=dW (bY _ hby) hbig;rcases hv with⟨h0,-⟩|⟨bv,ov,Cv,cv,Tv,rfl,rfl,hbv,hCv,hCvm,hfv,hcv,h1v⟩
 ·omega
 have hcellv:∀j v,xs[j]? = some v->w.cell? (Addr.add ⟨bv,ov,none⟩ j)=some v:=λj v hj=>by
  exact CW
 have fresh:∀(C0 nC:Nat) (rest:Array Value) (ob:Option Nat),n+1<=nC->nC<=maxLen->rest.size=(nC-(n+1))*3 ->
  Placed w (w.drew.alloc (.cells (us.toArray++xs.toArray++rest) 196)) ob w.heap.size 0 nC (n+1) 3 (us.take (n*3)++xs++us.drop (n*3)):=by
  intro C0 nC rest ob h1 h2 h3;have e:nC*3=n*3+3+(nC-(n+1))*3:=Cc;refine⟨⟨_,_,qq w.drew _,by simp[hul,hxl,h3];omega,λj hj=>?_⟩,h1,h2,ab,⟨rfl,rfl,rfl⟩,.inl (aF _),λc hc _=>oA w.drew _ hc⟩;rw[aC aa,bg aa,bI,cE];have e2:(n+1)*3=n*3+3:=bD n 3;simp only[aT,aS];rw[du aM,BY,gW]
 rcases hs with⟨rfl,rfl,a,rfl⟩|⟨b,o,C,cs,T,rfl,rfl,hb,hnC,hCm,hfit,hcs,h1⟩
 ·obtain rfl:i=0:=by omega
  have hun:us=[]:=aA aa;subst hun;have hrun:=λty=>i7 (P:=Tryz.prog) (w:=w) (ty:=ty) Tryz.underlying117 hi0 hz0 a ⟨bv,ov,none⟩ 1 Cv xs gZ hcellv aa aa (by rw[hzb];omega)
  refine(qg w a 0 0 bv ov Cv _ _ (aF _) gP hrun).mono ?_
  rintro e w' ⟨rfl,rfl⟩
  have hge:=kV w 1 0 196;have hcm:=dr w 1 0 196 gP;refine⟨_,_,_,rfl,?_⟩;have:=fresh 0 (grownCap w 1 0 196) (Builtin.zeroCells z0.cells (grownCap w 1 0 196-1)) none hge hcm (by rw[gY,hzz]);exact i4
 ·by_cases hin:i=n
  ·subst hin
   by_cases hroom:i+1<=C
   ·have hmm:(i+1)*3<=C*3:=aq _ hroom
    have e2:(i+1)*3=i*3+3:=bD i 3;have hrun:=λty=>Go.AM.run_append_room (P:=Tryz.prog) (ty:=ty) (c:=Cv) (n:=i) (m:=1) Tryz.underlying117 hi0 hb ⟨bv,ov,none⟩ xs gZ hcellv h1v hroom (by rw[hzs];exact hfit)
    refine(qg w _ i C bv ov Cv _ _ hnC hCm hrun).mono ?_
    rintro e w' ⟨rfl,rfl⟩
    obtain⟨g0,g⟩:=dy cs (o+i*i0.size) xs (by rw[hzs];omega);refine⟨_,_,_,rfl,⟨_,_,dK w b cs _ T (0,0) hb,by rw[g0];exact hfit,λj hj=>?_⟩,hroom,hCm,ab,⟨rfl,rfl,rfl⟩,.inr rfl,λc _ hc=>sk w b c _ hc⟩;rw[g,hzs,aC aa,bg aa,bI];by_cases c1:j<i*3
    ·exact C7
    ·exact Da
   ·have hrun:=λty=>qV (P:=Tryz.prog) w 117 ty 196 i0 z0 Tryz.underlying117 hi0 hz0 ⟨b,o,none⟩ i C us (by rw[hzs];exact hul) (λj v hj=>by
     rw[dx];have:=aq 3 hnC;exact fJ hb (λj hj=>hcs j aa) aa j v hj) ⟨bv,ov,none⟩ 1 Cv xs gZ hcellv aa aa (by rw[hzb];exact tC aa hbig)
    refine(qg w _ i C bv ov Cv _ _ hnC hCm hrun).mono ?_
    rintro e w' ⟨rfl,rfl⟩
    have hge:=kV w (i+1) C 196;have hcm:=dr w (i+1) C 196 gP;exact CJ
  ·by_cases hroom:n+1<=C
   ·refine(Ay w us xs n i b o C bv ov Cv cs cv T Tv hul hxl aa hroom hCm hb hfit hcs h1 hbv hCv hfv (λj hj=>hcv j aa) h1v (λh=>hap b rfl en)).mono ?_
    exact CB
   ·refine(D3 w us xs n i b o C bv ov Cv cs cv T Tv hul hxl aa hnC aa hbig hb hfit hcs h1 hbv hCv hfv (λj hj=>hcv j aa) h1v).mono ?_
    exact CF
end Go.Proofs.YtklblkobegcljaaGreat
