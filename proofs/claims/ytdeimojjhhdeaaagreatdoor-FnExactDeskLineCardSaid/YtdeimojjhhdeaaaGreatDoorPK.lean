import Derived.Test.YtdeimojjhhdeaaaGreatDoorPJ
import Derived.Test.YtdeimojjhhdeaaaGreatDoorPE
import Derived.Test.YtdeimojjhhdeaaaGreatDoorPC
import Derived.Test.YtdeimojjhhdeaaaGreatDoorPB
import Derived.Test.YtdeimojjhhdeaaaGreatDoorPA
import Derived.Test.YtdeimojjhhdeaaaGreatDoorPD
import Derived.Test.YtdeimojjhhdeaaaGreatDoorPF
import Derived.Test.YtdeimojjhhdeaaaGreatDoorNA
import Derived.Test.YtdeimojjhhdeaaaGreatDoorPI
namespace Go.Proofs.YtdeimojjhhdeaaaGreatDoor
open Go.AM
set_option maxRecDepth 20000
set_option maxHeartbeats 6400000
noncomputable def lJ:List Part->List (List Part)->List Part×Bool
 |out,[]=>(out,true)
 |out,o::l=>if(fh out o).2=true then lJ (fh out o).1 l else([],false)
open Classical in
noncomputable def fO(l:List (List Part))(n:Int):List Part×Bool:=if 0<=n/\n<=200 then lJ (dC n) l else([],false)
theorem Ba(l:List (List Part))(n:Int)(hl:∀o∈l,nL aM o<=2^40)(hlen:l.length<=2^40):jm Tryz.prog 336 [.c (.s (l.map hJ)),.c (vi n)] (λrr=>rr=.tup [.c (.s ((fO l n).1.map Part.row)) 3,.c (.v (.bool (fO l n).2)) 1]):=by
 refine jm.intro aq Tryz.func336 ai rfl rfl rfl (aj rfl) (λw0 base o=>?_);simp;refine ae.pure (bW n 0 200) ab ?_;by_cases c:0<=n/\n<=200
 rotate_left
 ·exact Rz
 have e:fO l n=lJ (dC n) l:=by unfold fO;rw[al c]
 rw[e];simp[c];refine ae.ro (l7 n) ab ?_;simp;obtain⟨T,hT⟩:∃T,lJ (dC n) l=T:=⟨_,rfl⟩;rw[hT];refine aE eok (λx:Nat×List Part=>x.1<=l.length/\nL aM x.2<=2^18/\lJ x.2 (l.drop x.1)=T) (λx=>⟨33,0,[(18,.v (.int .i64 x.1)),(17,.v (.int .i64 l.length)),(16,.ro (l.map hJ)),(6,.ro (x.2.map Part.row))],phs o⟩) (λx=>l.length-x.1) (0,dC n) ⟨dz _,cT (pU n) ag,hT⟩ ab (λx hx=>Ent.refl ?_);obtain⟨i,out⟩:=x;obtain⟨h1,h2,h3⟩:=hx;simp only at h1 h2 h3⊢;by_cases h:i<l.length
 ·obtain⟨p,hp⟩:∃p,l[i]=p:=⟨_,rfl⟩
  have hpn:=hl _ (ao h);rw[hp]at hpn;rw[bk h,hp,lJ]at h3;have hc:=xJ out p aa hpn;exact QZ
 ·exact RW
theorem AS(l:List (List Part))(n:Int)(hl:∀o∈l,nL aM o<=2^40)(hlen:l.length<=2^40):jm Tryz.prog 297 [.c (.s (l.map hJ)),.c (vi n)] (λrr=>rr=.tup [.c (.s ((fO l n).1.map Part.row)) 3,.c (.v (.bool (fO l n).2)) 1]):=by
 refine jm.intro aq Tryz.func297 ai rfl rfl rfl (aj rfl) (λw0 base o=>?_);simp;refine ae.pure (dH n 0 200) ab ?_;by_cases c:0<=n/\n<=200
 rotate_left
 ·exact Rz
 have e:fO l n=lJ (dC n) l:=by unfold fO;rw[al c]
 rw[e];simp[c];refine ae.ro (lX n) ab ?_;simp;obtain⟨T,hT⟩:∃T,lJ (dC n) l=T:=⟨_,rfl⟩;rw[hT];refine aE eok (λx:Nat×List Part=>x.1<=l.length/\nL aM x.2<=2^18/\lJ x.2 (l.drop x.1)=T) (λx=>⟨33,0,[(18,.v (.int .i64 x.1)),(17,.v (.int .i64 l.length)),(16,.ro (l.map hJ)),(6,.ro (x.2.map Part.row))],phs o⟩) (λx=>l.length-x.1) (0,dC n) ⟨dz _,cT (pU n) ag,hT⟩ ab (λx hx=>Ent.refl ?_);obtain⟨i,out⟩:=x;obtain⟨h1,h2,h3⟩:=hx;simp only at h1 h2 h3⊢;by_cases h:i<l.length
 ·obtain⟨p,hp⟩:∃p,l[i]=p:=⟨_,rfl⟩
  have hpn:=hl _ (ao h);rw[hp]at hpn;rw[bk h,hp,lJ]at h3;have hc:=xE out p aa hpn;exact QZ
 ·exact RW
noncomputable def fQ(d:Doc)(rev:Int):List Part×Bool:=if(gi d rev).2=true then fO (gi d rev).1 ((eu d rev).1.length:Int)else([],false)
theorem tj{d:Doc}{rev:Int}(h:(gi d rev).2=true):(cf d/\d.fr<=rev/\rev<=aA d)/\(∀o∈(gi d rev).1,nL aM o<=2^40)/\(gi d rev).1.length<=2^40:=by
 have hc:cf d/\d.fr<=rev/\rev<=aA d:=bR λc=>by rw[vk c]at h;cases h
 refine⟨hc,?_,?_⟩
 ·rw[lC hc]
  intro o ho;obtain⟨e,he,rfl⟩:=cM.1 ho;have:=tu (hc.1.2.2.2.2.1 e (bD he)).2.2.1;omega
 ·rw[lC hc]
  have:=hc.1.2.2.2.1;simp only[eZ,gl];omega
theorem HM(d:Doc)(hl:cO d<=2^30)(rev:Int):jm Tryz.prog 247 [.agg d.row,.c (vi rev)] (λrr=>rr=.tup [.c (.s ((fQ d rev).1.map Part.row)) 3,.c (.v (.bool (fQ d rev).2)) 1]):=by
 refine jm.intro aq Tryz.func247 ai rfl rfl rfl (aj rfl) (λw0 base o=>?_);simp[Doc.row];intro b2;refine ae.ro (vw d hl rev) aS ?_;by_cases c:(gi d rev).2=true
 rotate_left
 ·exact Tn
 have e:fQ d rev=fO (gi d rev).1 ((eu d rev).1.length:Int):=by unfold fQ;rw[al c]
 obtain⟨h1,h2,h3⟩:=tj c;simp[c];refine ae.ro (ni d hl rev) aS ?_;simp;refine iF (Ba _ ((eu d rev).1.length:Int) h2 h3) ab ?_
 rintro _ rfl
 rw[<-e];simp
theorem Hj(d:Doc)(hl:cO d<=2^30)(rev:Int):jm Tryz.prog 200 [.agg d.row,.c (vi rev)] (λrr=>rr=.tup [.c (.s ((fQ d rev).1.map Part.row)) 3,.c (.v (.bool (fQ d rev).2)) 1]):=by
 refine jm.intro aq Tryz.func200 ai rfl rfl rfl (aj rfl) (λw0 base o=>?_);simp[Doc.row];intro b2;refine ae.ro (uS d hl rev) aS ?_;simp;refine ae.ro (mV d hl rev) aS ?_;by_cases c:(gi d rev).2=true
 rotate_left
 ·exact Tn
 have e:fQ d rev=fO (gi d rev).1 ((eu d rev).1.length:Int):=by unfold fQ;rw[al c]
 obtain⟨h1,h2,h3⟩:=tj c;have ht:=(kO h1.1 h1.2.1 h1.2.2).1;simp[c,ht];refine iF (AS _ ((eu d rev).1.length:Int) h2 h3) ab ?_
 rintro _ rfl
 rw[<-e];simp
theorem um{w0:World}{bF bG:Nat->Prop}{bl:Bool}{st:ASt}{dst:Option Nat}{K:ASt->Prop}{L:List Part}{P:List Int}{D:Int}{b:Nat}{Hl Hp:Hd}(hL:L.length<=2^20)(_hP:P.length<=2^40)
 (g160:st.h.get 240=.vars b 268 [.sl 5000 Hl 3 0 L.length,.sl 5001 Hp 1 0 P.length,.v (.int .i64 D)])
 (g5000:st.h.get 5000=.rows Hl 3 (L.map Part.row) true) (g5001:st.h.get 5001=.rows Hp 1 (P.map aN) true)
 (hK:∀Hl' h',AH.get h' 240=.vars b 268 [.sl 5000 Hl' 3 0 (bq L P D).length,.nil,.v (.int .i64 0)]->AH.get h' 5000=.rows Hl' 3 ((bq L P D).map Part.row) true ->
  (∀q,q<15000->q≠240->q≠5000->q≠5001->AH.get h' q=st.h.get q)->cG ⟨st.n,st.kb,st.t,h'⟩ dst (.tup []) K):ae ⟨Tryz.prog,tt,w0,⟨bF,bG,bl,λ_=>True⟩⟩ 346 [.p 240 b 0] st dst K:=by
 refine inl aq Tryz.func346 20000 (λw1 F=>?_);simp[g160];by_cases hp:P=[]
 ·have hp0:¬0<P.length:=by simp[hp]
  simp[hp0,g160];by_cases hd:0<D
  ·simp[hd]
   refine drw eok mix [0,1,2,3,4,5,6,7,8,9,12,13] [10,11,14] (.c 12 10 4 4091 (.c 12 11 128 3963 (.c 12 14 3961 2 (.l 12 2) .s) .s) .s) ?_;simp[g160,g5000];intro b1;refine⟨aa,λH=>hK H _ ?_ ?_ ?_⟩
   ·simp[rD hp hd]
   ·simp[rD hp hd,Part.row]
   ·intro q q0 q1 q2 q3
    repeat (first|exact rfl|refine(cV aa).trans ?_)
  ·simp[hd,g160]
   refine hK Hl _ ?_ ?_ ?_
   ·simp[rC hp hd]
   ·simp[rC hp hd,g5000]
   ·intro q q0 q1 q2 q3
    repeat (first|exact rfl|refine(cV aa).trans ?_)
 ·have hp0:0<P.length:=bJ.2 hp
  simp[hp0];refine drw eok mix [0,1,2,3,4,5,6,7,8,9,12,13] [10,11,14] (.c 12 10 4 4091 (.c 12 11 128 3963 (.c 12 14 3961 2 (.l 12 2) .s) .s) .s) ?_;simp[g160,g5000,g5001];intro b1;refine⟨aa,λH=>?_⟩;by_cases hd:0<D
  ·simp[hd]
   refine drw eok mix [0,1,2,3,4,5,6,7,8,9,12,13] [10,11,14] (.c 12 10 4 4091 (.c 12 11 128 3963 (.c 12 14 3961 2 (.l 12 2) .s) .s) .s) ?_;simp;intro b2;refine⟨aa,λH2=>hK H2 _ ?_ ?_ ?_⟩
   ·simp[rF hp hd]
   ·simp[rF hp hd,Part.row]
   ·intro q q0 q1 q2 q3
    repeat (first|exact rfl|refine(cV aa).trans ?_)
  ·simp[hd]
   refine hK H _ ?_ ?_ ?_
   ·simp[rE hp hd]
   ·simp[rE hp hd,Part.row]
   ·intro q q0 q1 q2 q3
    repeat (first|exact rfl|refine(cV aa).trans ?_)
theorem ES{w0:World}{bF bG:Nat->Prop}{bl:Bool}{st:ASt}{dst:Option Nat}{K:ASt->Prop}{L:List Part}{P:List Int}{D n:Int}{b:Nat}{Hl Hp:Hd}(hL:L.length<=2^19)(hP:P.length<=2^40)(hn0:0<n)(hn:n<=200)(hF:∀q∈bq L P D,0<=q.n/\q.n<=2^40)
 (g160:st.h.get 240=.vars b 268 [.sl 5000 Hl 3 0 L.length,.sl 5001 Hp 1 0 P.length,.v (.int .i64 D)])
 (g5000:st.h.get 5000=.rows Hl 3 (L.map Part.row) true) (g5001:st.h.get 5001=.rows Hp 1 (P.map aN) true)
 (hK:∀Hl' h',AH.get h' 240=.vars b 268 [.sl 5000 Hl' 3 0 (dX (bq L P D) n).length,.nil,.v (.int .i64 0)]->AH.get h' 5000=.rows Hl' 3 ((dX (bq L P D) n).map Part.row) true ->
  (∀q,q<15000->q≠240->q≠5000->q≠5001->AH.get h' q=st.h.get q)->cG ⟨st.n,st.kb,st.t,h'⟩ dst (.tup []) K):ae ⟨Tryz.prog,tt,w0,⟨bF,bG,bl,λ_=>True⟩⟩ 288 [.p 240 b 0,.v (.int .i64 n)] st dst K:=by
 refine inl aq Tryz.func288 30000 (λw1 F=>?_);have n0:¬n=0:=aa;simp[n0];refine um (L:=L) (P:=P) (D:=D) (Hl:=Hl) (Hp:=Hp) aa hP (by simp[g160]) (by simp[g5000]) (by simp[g5001]) (λHl' h' k160 k5000 k80=>?_);have f1:=jN L P D;generalize bq L P D=F at f1 hF k160 k5000 hK;by_cases hF0:0<F.length
 ·obtain⟨m,hm⟩:∃m,F.length=m+1:=⟨F.length-1,aa⟩
  have hmlt:m<F.length:=aa;have hmm:(m:Int)<m+1:=aa;have em:Go.IntKind.i64.wrap (m:Int)=m:=gb aa
  have hk:dX F n=if F[m].kind=1 then F.set m ⟨1,F[m].n+n,F[m].signs⟩else F++[⟨1,n,[]⟩]:=by
   exact zd
  have hq:=hF _ (ao hmlt);have em2:Go.IntKind.i64.wrap (F[m].n+n)=F[m].n+n:=ah _ aa;simp[k160,k5000,hm,em,hmm,Part.row];by_cases ck:F[m].kind=1
  ·rw[al ck]at hk
   simp[ck];refine drw eok mix [0,1,2,3,4,5,6,7,8,9,10,11,12,13,14,15,16,17,18] [19] (.c 19 19 524285 2 (.l 19 2) .s) ?_;simp[k160,k5000,hm,em,hmm,Part.row,ck,em2];have hmod:=nP (F:=F) (m:=m) hmlt (g:=λrow=>jX row 1 [CD.v (Value.int IntKind.i64 (F[m].n+n))]) (p:=⟨1,F[m].n+n,F[m].signs⟩) wq;refine hK Hl' _ ?_ ?_ ?_
   ·simp[k160,hk,hm]
   ·simp[hk,hmod]
   ·intro q q0 q1 q2 q3
    repeat (first|exact k80 q q0 q1 q2 q3|exact rfl|refine(cV aa).trans ?_)
  ·rw[ak ck]at hk
   simp[ck,k160,k5000,hm];intro b1;refine⟨aa,λH=>hK H _ ?_ ?_ ?_⟩
   ·simp[hk,hm]
   ·simp[hk,Part.row]
   ·intro q q0 q1 q2 q3
    repeat (first|exact k80 q q0 q1 q2 q3|exact rfl|refine(cV aa).trans ?_)
 ·have hF1:F=[]:=aF aa
  subst hF1;have hk:dX [] n=[⟨1,n,[]⟩]:=wo;simp[k160,k5000];intro b1 H;refine hK H _ ?_ ?_ ?_
  ·simp[hk]
  ·simp[hk,Part.row]
  ·intro q q0 q1 q2 q3
   repeat (first|exact k80 q q0 q1 q2 q3|exact rfl|refine(cV aa).trans ?_)
theorem Ha{w0:World}{bF bG:Nat->Prop}{bl:Bool}{st:ASt}{dst:Option Nat}{K:ASt->Prop}{L:List Part}{P l:List Int}{D:Int}{b:Nat}{Hl Hp:Hd}(hP:P.length<=2^40)(hl:l.length<=2^40)
 (g160:st.h.get 240=.vars b 268 [.sl 5000 Hl 3 0 L.length,.sl 5001 Hp 1 0 P.length,.v (.int .i64 D)]) (g5001:st.h.get 5001=.rows Hp 1 (P.map aN) true)
 (hK:∀Hp' h',AH.get h' 240=.vars b 268 [.sl 5000 Hl 3 0 L.length,.sl 5001 Hp' 1 0 (P++l).length,.v (.int .i64 D)]->AH.get h' 5001=.rows Hp' 1 ((P++l).map aN) true->AH.get h' 5000=st.h.get 5000 ->
  (∀q,q<15000->q≠240->q≠5000->q≠5001->AH.get h' q=st.h.get q)->cG ⟨st.n,st.kb,st.t,h'⟩ dst (.tup []) K):ae ⟨Tryz.prog,tt,w0,⟨bF,bG,bl,λ_=>True⟩⟩ 285 [.p 240 b 0,.ro (l.map aN)] st dst K:=by
 refine inl aq Tryz.func285 30000 (λw1 F=>?_);simp[g160,g5001];refine⟨aa,λH=>hK H _ ?_ ?_ ?_ ?_⟩
 ·simp
 ·simp
 ·simp
 ·intro q q0 q1 q2 q3
  repeat (first|exact rfl|refine(cV aa).trans ?_)
theorem EU{w0:World}{bF bG:Nat->Prop}{bl:Bool}{st:ASt}{dst:Option Nat}{K:ASt->Prop}{n D:Int}{b:Nat}{x y:AV}(h0:0<=D/\D<=2^40)(h1:0<=n/\n<=2^40)
 (g160:st.h.get 240=.vars b 268 [x,y,.v (.int .i64 D)])
 (hK:∀h',AH.get h' 240=.vars b 268 [x,y,.v (.int .i64 (D+n))]->(∀q,q≠240->AH.get h' q=st.h.get q)->cG ⟨st.n,st.kb,st.t,h'⟩ dst (.tup []) K):ae ⟨Tryz.prog,tt,w0,⟨bF,bG,bl,λ_=>True⟩⟩ 284 [.p 240 b 0,.v (.int .i64 n)] st dst K:=by
 refine inl aq Tryz.func284 30000 (λw1 F=>?_);have e:Go.IntKind.i64.wrap (D+n)=D+n:=ah _ aa;simp[g160,e];refine hK _ ab (λq hq=>by simp[hq])
def mu(t:List Int)(s:List Part×Int)(p:Part):List Part×Int:=
 if p.kind=1 then(s.1++[⟨1,p.n,p.signs⟩],s.2+p.n)else if p.kind=3 then(s.1++[⟨2,0,(t.drop s.2.toNat).take p.n.toNat⟩],s.2+p.n)else(s.1++[⟨3,p.signs.length,[]⟩],s.2)
def il(o:List Part)(t:List Int):List Part×Int:=o.foldl (mu t) ([],0)
theorem A7{o:List Part}{t:List Int}{i:Nat}(h:i<o.length):il (o.take (i+1)) t=mu t (il (o.take i) t) o[i]:=by
 unfold il;exact wA
open Classical in
noncomputable def mv(o:List Part)(t:List Int):List Part×Bool:=if iE o t then(normal (il (normal o) t).1,true)else([],false)
theorem tT{o:List Part}{t:List Int}(h:iE o t):iE (normal o) t:=by
 obtain⟨h1,h2,-⟩:=sa h.1;exact⟨h1,h.2.1,h2.trans h.2.2⟩
structure IvOk(o:List Part)(i:Nat)(s:List Part×Int):Prop where
 a:s.2=dF fK (o.take i)+dF fD (o.take i)
 l:s.1.length=i
 p:∀p∈s.1,aY p
 k:dF fK s.1=dF fK (o.take i)
 q:dF fP s.1=dF fD (o.take i)
 d:dF fD s.1=dF fP (o.take i)
theorem se{o:List Part}{t:List Int}(h:iE o t):∀(i:Nat),i<=o.length->IvOk o i (il (o.take i) t)
 | 0, _ => by
   simp[il];exact⟨og,ab,ab,og,og,og⟩
 | i + 1, hi => by
   have hlt:i<o.length:=aa;have ih:=se h i aa;have hin:=sD h hlt;rw[(oQ (t:=t) h.1.1.1 i aa).1]at hin;have hpo:=h.1.1.1 _ (ao hlt);have hb:=hpo.bounds;have h1:=gg (f:=fK) hlt;have h2:=gg (f:=fD) hlt;have h3:=gg (f:=fP) hlt;have htl:t.length<=200:=h.2.1.1;have hts:dK t:=h.2.1.2;rw[A7 hlt];generalize il (o.take i) t=s at ih;obtain⟨L,a⟩:=s;obtain⟨g1,g2,g3,g4,g5,g6⟩:=ih;simp only at g1 g2 g3 g4 g5 g6;rw[<-g1]at hin;generalize o[i]=p at hin hpo hb h1 h2 h3;unfold mu;by_cases k1:p.kind=1
   ·have e1:p.signs=[]:=hb.2.2.2.2.2 aa
    have hq:aY ⟨1,p.n,p.signs⟩:=Or.inl ⟨Or.inl rfl,⟨hb.2.1,hb.2.2.1⟩,e1⟩;rw[al k1];refine⟨?_,by simp[g2],?_,?_,?_,?_⟩
    ·simp only;simp[fK,fD,k1]at h1 h2;omega
    ·exact Ke
    ·simp only[gI];simp[fK,k1,dF]at h1⊢;omega
    ·simp only[gI];simp[fP,fD,k1,dF]at h2⊢;omega
    ·simp only[gI];simp[fP,fD,k1,dF]at h3⊢;omega
   ·by_cases k3:p.kind=3
    ·have hle:=hin.2.1 aa
     have hln:((t.drop a.toNat).take p.n.toNat).length=p.n.toNat:=by rw[gk,gl];omega
     have hq:aY ⟨2,0,(t.drop a.toNat).take p.n.toNat⟩:=Or.inr ⟨rfl,rfl,by rw[hln];omega,λn hn=>hts n (bD (bN hn))⟩;have k2:¬p.kind=2:=aa;rw[ak k1,al k3];refine⟨?_,by simp[g2],?_,?_,?_,?_⟩
     ·simp only;simp[fK,fD,k1,k2]at h1 h2;omega
     ·exact Ke
     ·simp only[gI];simp[fK,k1,dF]at h1⊢;omega
     ·simp only[gI,fP,hln,dF];simp[fD,k1,k2]at h2;simp;omega
     ·simp only[gI];simp[fP,fD,k2,dF]at h3⊢;omega
    ·have k2:p.kind=2:=by omega
     have hq:aY ⟨3,p.signs.length,[]⟩:=Or.inl ⟨Or.inr rfl,⟨ab,aI⟩,rfl⟩;rw[ak k1,ak k3];refine⟨?_,by simp[g2],?_,?_,?_,?_⟩
     ·simp only;simp[fK,fD,k2]at h1 h2;omega
     ·exact Ke
     ·simp only[gI];simp[fK,k2,dF]at h1⊢;omega
     ·simp only[gI];simp[fP,fD,k2,dF]at h2⊢;omega
     ·simp only[gI];simp[fP,fD,k2,dF]at h3⊢;omega
theorem FH{o:List Part}{t:List Int}(h:iE o t):cz (il o t).1:=by
 have hi:=se h o.length (aC _);rw[dn]at hi;obtain⟨g1,g2,g3,g4,g5,g6⟩:=hi;rw[dn]at g4 g5 g6;have ho:=h.1;have hp:fL (il o t).1:=⟨g3,by rw[g2];exact ho.1.2⟩;have f1:=ho.2;unfold bS jt ec at f1;rw[al ho.1]at f1;refine⟨hp,?_,?_⟩
 ·unfold bS ec;rw[al hp];simp only at f1⊢;rw[g4,g6];omega
 ·unfold jt ec;rw[al hp];simp only at f1⊢;rw[g4,g5];omega
theorem Yf(o:List Part)(t:List Int):(apply o t).2=dc (iE o t):=by
 unfold apply
 split<;>simp[*]
theorem Lh(o:List Part)(t:List Int)(hl:nL aM o<=2^40)(ht:t.length<=2^40):ar Tryz.prog 248 [.c (.s (o.map Part.row)),.c (.s (t.map aN))] (.tup [.c (.s ((mv o t).1.map Part.row)) 3,.c (.v (.bool (mv o t).2)) 1]):=by
 refine pci aq Tryz.func248 (λw0 base=>?_);simp;refine ae.pure (mD o t hl ht) ab ?_;rw[Yf];by_cases c1:iE o t
 rotate_left
 ·exact Rl
 have e:mv o t=(normal (il (normal o) t).1,true):=by unfold mv;rw[al c1]
 simp[c1,e];intro H0;refine ae.ro (lG o hl) ab ?_;have en:cN o=normal o:=by unfold cN;rw[al c1.1]
 rw[en];have hf:=tT c1;generalize normal o=o' at hf
 clear e en c1 hl
 have hlen:=hf.1.1.2;simp;refine aE eok (λx:Nat×Hd=>x.1<=o'.length) (λx=>⟨66,0,[(23,.v (.int .i64 x.1)),(22,.v (.int .i64 o'.length)),(21,.ro (o'.map Part.row)),(9,.v (.int .i64 (il (o'.take x.1) t).2)),(8,.sl 5000 x.2 3 0 (il (o'.take x.1) t).1.length),(1,.ro (t.map aN))],[(5000,.rows x.2 3 ((il (o'.take x.1) t).1.map Part.row) false)]⟩) (λx=>o'.length-x.1) (0,none) ab (by simp[il]) (λx hi=>Ent.refl ?_);obtain⟨i,H⟩:=x;simp only at hi⊢;by_cases h:i<o'.length
 ·skip
  have hin:=sD hf h;rw[(oQ (t:=t) hf.1.1.1 i aa).1]at hin;have hok:=se hf i hi;have hb:=(hf.1.1.1 _ (ao h)).bounds;have hs:=A7 (t:=t) h;have htl:t.length<=200:=hf.2.1.1;rw[<-hok.a]at hin;have hlen2:=hok.l;generalize il (o'.take i) t=s at hin hok hs hlen2;obtain⟨L,a⟩:=s;simp only at hin hok hs hlen2;obtain⟨a',rfl⟩:∃a':Nat,a=a':=⟨a.toNat,aa⟩;obtain⟨n,hn⟩:∃n:Nat,o'[i].n=n:=⟨o'[i].n.toNat,aa⟩;have e:Go.IntKind.i64.wrap ((i:Int)+1)=((i+1:Nat):Int):=aZ aa;have ea:Go.IntKind.i64.wrap ((a':Int)+n)=(a':Int)+n:=ah _ aa;rw[hn]at hin;simp[h,Part.row];intro b9;by_cases k1:o'[i].kind=1
  ·have hst:mu t (L,(a':Int)) o'[i]=(L++[⟨1,n,o'[i].signs⟩],(a':Int)+n):=by simp[mu,k1,hn]
   rw[hst]at hs;simp[k1,hn,ea];exact Kg
  ·by_cases k3:o'[i].kind=3
   ·have hle:a'+n<=t.length:=by have:=hin.2.1 aa;omega
    obtain⟨m,hm⟩:∃m,(t.drop a').take n=m:=⟨_,rfl⟩;have hcut:cut (t.map aN) a' n=m.map aN:=by rw[gu,<-hm];simp
    have hst:mu t (L,(a':Int)) o'[i]=(L++[⟨2,0,m⟩],(a':Int)+n):=by simp[mu,k3,hn,hm]
    rw[hst]at hs;simp[k3,hn,ea,hle,hcut];exact Kg
   ·have hst:mu t (L,(a':Int)) o'[i]=(L++[⟨3,o'[i].signs.length,[]⟩],(a':Int)):=by simp[mu,k1,k3]
    rw[hst]at hs;simp[k1,k3];exact Kg
 ·have he:o'.take i=o':=aD aa
  rw[he];have hk:=FH hf;have en:cN (il o' t).1=normal (il o' t).1:=by unfold cN;rw[al hk]
  simp[h];refine ae.pure (lG _ (cT (tu hk) ag)) ab ?_;simp[en]
theorem KF(o:List Part)(t:List Int)(hl:nL aM o<=2^40)(ht:t.length<=2^40):ar Tryz.prog 201 [.c (.s (o.map Part.row)),.c (.s (t.map aN))] (.tup [.c (.s ((mv o t).1.map Part.row)) 3,.c (.v (.bool (mv o t).2)) 1]):=by
 refine pci aq Tryz.func201 (λw0 base=>?_);simp;refine ae.pure (IX o t hl ht) ab ?_;by_cases c1:iE o t
 rotate_left
 ·exact Rl
 have e:mv o t=(normal (il (normal o) t).1,true):=by unfold mv;rw[al c1]
 simp[c1,e];intro bb;refine ae.ro (pC o hl) ab ?_;have en:cN o=normal o:=by unfold cN;rw[al c1.1]
 rw[en];have hf:=tT c1;generalize normal o=o' at hf
 clear e en c1 hl
 have hlen:=hf.1.1.2;simp
 refine aE eok (λx:Nat×Hd×Hd=>x.1<=o'.length) (λx=>⟨58,0,[(19,.v (.int .i64 x.1)),(18,.v (.int .i64 o'.length)),(17,.ro (o'.map Part.row)),(7,.v (.int .i64 (il (o'.take x.1) t).2)),(6,.p 240 bb 0),(1,.ro (t.map aN))],
  [(240, .vars bb 268 [.sl 5000 x.2.1 3 0 (bT (il (o'.take x.1) t).1).1.length, .sl 5001 x.2.2 1 0 (bT (il (o'.take x.1) t).1).2.1.length, .v (.int .i64 (bT (il (o'.take x.1) t).1).2.2)]),
   (5000,.rows x.2.1 3 ((bT (il (o'.take x.1) t).1).1.map Part.row) true),(5001,.rows x.2.2 1 ((bT (il (o'.take x.1) t).1).2.1.map aN) true)]⟩) (λx=>o'.length-x.1) (0,none,none) ab (by simp[il,bT]) (λx hi=>Ent.refl ?_)
 obtain⟨i,Hl,Hp⟩:=x;simp only at hi⊢;have hnb:=qa (se hf i hi).p (il (o'.take i) t).1.length (aC _);rw[dn]at hnb;rw[(se hf i hi).l]at hnb;by_cases h:i<o'.length
 ·skip
  have hin:=sD hf h;rw[(oQ (t:=t) hf.1.1.1 i aa).1]at hin;have hok:=se hf i hi;have hb:=(hf.1.1.1 _ (ao h)).bounds;have hs:=A7 (t:=t) h;have htl:t.length<=200:=hf.2.1.1;rw[<-hok.a]at hin;have hlen2:=hok.l;generalize il (o'.take i) t=s at hin hok hs hlen2 hnb;obtain⟨L0,a⟩:=s;simp only at hin hok hs hlen2 hnb;obtain⟨a',rfl⟩:∃a':Nat,a=a':=⟨a.toNat,aa⟩;obtain⟨n,hn⟩:∃n:Nat,o'[i].n=n:=⟨o'[i].n.toNat,aa⟩;have e:Go.IntKind.i64.wrap ((i:Int)+1)=((i+1:Nat):Int):=aZ aa;have ea:Go.IntKind.i64.wrap ((a':Int)+n)=(a':Int)+n:=ah _ aa;rw[hn]at hin;have hsn:∀p,bT (L0++[p])=fb (bT L0) p:=fM L0;generalize bT L0=s at hnb hsn;obtain⟨L,P,D⟩:=s;obtain⟨k1,k2,k3,k4,k5⟩:=hnb
  simp only at k1 k2 k3 k4 k5;simp[h,Part.row];intro b9;by_cases c1:o'[i].kind=1
  ·have hst:mu t (L0,(a':Int)) o'[i]=(L0++[⟨1,n,o'[i].signs⟩],(a':Int)+n):=by simp[mu,c1,hn]
   rw[hst]at hs;simp[c1,hn];by_cases cn:0<n
   ·have hstep:fb (L,P,D) ⟨1,n,o'[i].signs⟩=(dX (bq L P D) n,[],0):=by simp[fb,cn]
    have f2:=ku (P:=P) k3 k4 k5;refine ES (n:=(n:Int)) (L:=L) (P:=P) (D:=D) (Hl:=Hl) (Hp:=Hp) aa aa aa aa (λq hq=>Dp) ab ab ab (λHl' h' k240 k5000 ko=>?_);have k144:=ko 144 aa aa aa aa;simp at k144;simp[k144,ea];refine Ent.kill 5001 (Ent.refl ⟨i+1,aa,aa,Hl',none,?_⟩);rw[hs];simp[e,k240,k5000,hsn,hstep]
   ·have cn0:n=0:=by omega
    subst cn0;refine inl aq Tryz.func288 30000 (λw1 F=>?_);simp at ea;simp[ea];refine Ent.refl ⟨i+1,aa,aa,Hl,Hp,?_⟩;rw[hs];simp[fb,e,hsn]
  ·by_cases c2:o'[i].kind=2
   ·have hst:mu t (L0,(a':Int)) o'[i]=(L0++[⟨3,o'[i].signs.length,[]⟩],(a':Int)):=by simp[mu,c2]
    rw[hst]at hs;simp[c2];refine EU (x:=.sl 5000 Hl 3 0 L.length) (y:=.sl 5001 Hp 1 0 P.length) (n:=(o'[i].signs.length:Int)) (D:=D) aa aa ab (λh' k240 ko=>?_);simp;refine Ent.refl ⟨i+1,aa,aa,Hl,Hp,?_⟩;rw[hs];simp[fb,hsn,e,k240,ko]
   ·have c3:o'[i].kind=3:=by omega
    have hle:a'+n<=t.length:=by have:=hin.2.1 aa;omega
    obtain⟨m,hm⟩:∃m,(t.drop a').take n=m:=⟨_,rfl⟩;have hcut:cut (t.map aN) a' n=m.map aN:=by rw[gu,<-hm];simp
    have hmn:m.length<=200:=by rw[<-hm,gk,gl];omega
    have hst:mu t (L0,(a':Int)) o'[i]=(L0++[⟨2,0,m⟩],(a':Int)+n):=by simp[mu,c3,hn,hm]
    rw[hst]at hs;simp[c1,c2,hn,ea,hle,hcut];refine Ha (l:=m) (L:=L) (P:=P) (D:=D) (Hl:=Hl) (Hp:=Hp) aa aa ab ab (λHp' h' k240 k5001 k5000 ko=>?_);have k144:=ko 144 aa aa aa aa;simp at k144;simp[k144,ea];refine Ent.refl ⟨i+1,aa,aa,Hl,Hp',?_⟩;rw[hs];simp[fb,hsn,e,k240,k5000,k5001]
 ·have he:o'.take i=o':=aD aa
  rw[he]at hnb⊢;have hn:normal (il o' t).1=bq (bT (il o' t).1).1 (bT (il o' t).1).2.1 (bT (il o' t).1).2.2:=rfl;rw[hn];generalize bT (il o' t).1=s at hnb;obtain⟨L,P,D⟩:=s;obtain⟨k1,k2,k3,k4,k5⟩:=hnb;simp only at k1 k2 k3 k4 k5;simp[h];refine inl aq Tryz.func289 30000 (λw1 F=>?_);simp;refine um (L:=L) (P:=P) (D:=D) (Hl:=Hl) (Hp:=Hp) aa aa ab ab ab (λHl' h' k240 k5000 ko=>?_);simp[k240,k5000]
theorem Jg:∀(l:List (List Part)) (o:List Part),nL aM o<=2^18->nL aM (lJ o l).1<=2^18
 | [],o,h=>h
 | p :: l, o, h => by
   rw[lJ]
   split
   ·exact Jg l _ (qj o p)
   ·exact gA
theorem Jj(d:Doc)(rev:Int):nL aM (fQ d rev).1<=2^18:=by
 unfold fQ
 split
 ·unfold fO
  split
  ·exact Jg _ _ (cT (pU _) ag)
  ·exact gA
 ·exact gA
theorem NY{d:Doc}{rev:Int}(h:(fQ d rev).2=true):(eu d rev).2=true:=by
 unfold fQ at h
 split at h
 ·rename_i c
  obtain⟨h1,-,-⟩:=tj c;exact(kO h1.1 h1.2.1 h1.2.2).1
 ·cases h
noncomputable def fv(d:Doc)(rev:Int):List Part×Bool:=if(fQ d rev).2=true then mv (fQ d rev).1 (eu d rev).1 else([],false)
theorem FP(d:Doc)(hl:cO d<=2^30)(rev:Int):jm Tryz.prog 137 [.agg d.row,.c (vi rev)] (λrr=>rr=.tup [.c (.s ((fv d rev).1.map Part.row)) 3,.c (.v (.bool (fv d rev).2)) 1]):=by
 refine jm.intro aq Tryz.func137 ai rfl rfl rfl (aj rfl) (λw0 base o=>?_);simp[Doc.row];intro b2;refine iF (HM d hl rev) aS ?_
 rintro _ rfl
 have hn:=Jj d rev;have ht:=nK d rev;by_cases c:(fQ d rev).2=true
 rotate_left
 ·exact Tp
 have e:fv d rev=mv (fQ d rev).1 (eu d rev).1:=by unfold fv;rw[al c]
 simp[c];refine ae.ro (ni d hl rev) aS ?_;simp;refine ae.ro (Lh (fQ d rev).1 (eu d rev).1 aa aa) ab ?_;rw[<-e];simp
theorem EO(d:Doc)(hl:cO d<=2^30)(rev:Int):jm Tryz.prog 92 [.agg d.row,.c (vi rev)] (λrr=>rr=.tup [.c (.s ((fv d rev).1.map Part.row)) 3,.c (.v (.bool (fv d rev).2)) 1]):=by
 refine jm.intro aq Tryz.func92 ai rfl rfl rfl (aj rfl) (λw0 base o=>?_);simp[Doc.row];intro b2;refine iF (Hj d hl rev) aS ?_
 rintro _ rfl
 have hn:=Jj d rev;have ht:=nK d rev;simp;refine ae.ro (mV d hl rev) aS ?_;by_cases c:(fQ d rev).2=true
 rotate_left
 ·exact Tp
 have e:fv d rev=mv (fQ d rev).1 (eu d rev).1:=by unfold fv;rw[al c]
 simp[c,NY c];refine ae.ro (KF (fQ d rev).1 (eu d rev).1 aa aa) ab ?_;rw[<-e];simp
set_option maxHeartbeats 3200000
theorem xg(n:Net)(hl:fj n<=2^30):ar Tryz.prog 101 [.agg n.row] (.one (.agg n.res)):=by
 refine pci aq Tryz.func101 (λw0 base=>?_);obtain⟨d,l⟩:=n;unfold fj at hl;simp only at hl;have hle:=bB (f:=cE) (B:=2^30) (l:=l) aa;simp[Net.row];intro b1 b2;refine ae.pure (xh d aa) aS ?_;simp[Doc.res];intro H2 H3 H4 b3
 refine aE eok (λx:Nat×Hd=>x.1<=l.length) (λx=>⟨26,0,[(13,.v (.int .i64 x.1)),(12,.v (.int .i64 l.length)),(11,.ro (l.map Rep.row)),(3,.p 48 b3 0),(2,.p 32 b2 0)],
  [(48, .vars b3 47 [.v (.string d.name), .v (.int .i64 d.fr), .sl 130 H2 1 0 d.text.length, .sl 131 H3 3 0 d.list.length, .sl 132 H4 3 0 d.seen.length, .sl 5000 x.2 7 0 x.1]),(32, .vars b2 47 [.v (.string ⟨#[]⟩), .v (.int .i64 0), .nil, .nil, .nil, .nil]),
   (130,.rows H2 1 (d.text.map aN) true),(131,.rows H3 3 (d.list.map Entry.row) true),(132,.rows H4 3 (d.seen.map Seen.row) true),(5000,.rows x.2 7 ((l.take x.1).map Rep.row) true)]⟩) (λx=>l.length-x.1) (0,none) ab ab (λx hi=>Ent.refl ?_)
 obtain⟨i,H⟩:=x;simp only at hi⊢;by_cases hlt:i<l.length
 ·have hm:=hQ (f:=cE) (B:=2^30) (l:=l) aa (ao hlt)
  have e1:min i l.length=i:=aa;simp[hlt,Rep.row];intro b5;refine drw eok mix [0,1,2,6] [3,4,5,7] (.c 4 3 2 13 (.c 4 4 0 13 (.c 4 5 4 9 (.c 4 7 9 0 (.l 4 0) .s) .s) .s) .s) ?_;simp
  try intros
  refine ae.pure (sB l[i] hm) dB ?_;exact T5
 ·have hm:i=l.length:=by omega
  subst hm;simp[Net.res]
theorem A5(n:Net)(hl:fj n<=2^30):ar Tryz.prog 53 [.agg n.row] (.one (.agg n.res)):=by
 refine pci aq Tryz.func53 (λw0 base=>?_);obtain⟨d,l⟩:=n;unfold fj at hl;simp only at hl;have hle:=bB (f:=cE) (B:=2^30) (l:=l) aa;simp[Net.row];intro b1 b2;refine ae.pure (wY d aa) aS ?_;simp[Doc.res];intro H2 H3 H4 b3
 refine aE eok (λx:Nat×Hd=>x.1<=l.length) (λx=>⟨26,0,[(13,.v (.int .i64 x.1)),(12,.v (.int .i64 l.length)),(11,.ro (l.map Rep.row)),(3,.p 48 b3 0),(2,.p 32 b2 0)],
  [(48, .vars b3 47 [.v (.string d.name), .v (.int .i64 d.fr), .sl 130 H2 1 0 d.text.length, .sl 131 H3 3 0 d.list.length, .sl 132 H4 3 0 d.seen.length, .sl 5000 x.2 7 0 x.1]),(32, .vars b2 47 [.v (.string ⟨#[]⟩), .v (.int .i64 0), .nil, .nil, .nil, .nil]),
   (130,.rows H2 1 (d.text.map aN) true),(131,.rows H3 3 (d.list.map Entry.row) true),(132,.rows H4 3 (d.seen.map Seen.row) true),(5000,.rows x.2 7 ((l.take x.1).map Rep.row) true)]⟩) (λx=>l.length-x.1) (0,none) ab ab (λx hi=>Ent.refl ?_)
 obtain⟨i,H⟩:=x;simp only at hi⊢;by_cases hlt:i<l.length
 ·have hm:=hQ (f:=cE) (B:=2^30) (l:=l) aa (ao hlt)
  have e1:min i l.length=i:=aa;simp[hlt,Rep.row];intro b5;refine drw eok mix [0,1,2,6] [3,4,5,7] (.c 4 3 2 13 (.c 4 4 0 13 (.c 4 5 4 9 (.c 4 7 9 0 (.l 4 0) .s) .s) .s) .s) ?_;simp
  try intros
  refine ae.pure (sd l[i] hm) dB ?_;exact T5
 ·have hm:i=l.length:=by omega
  subst hm;simp[Net.res]
theorem Bo{l:List Entry}{k:Nat}(_h:k<=l.length):cut (l.map Entry.row) 0 k=(l.take k).map Entry.row:=by
 rw[gu,fq,<-eO]
theorem NI{d:Doc}{rev:Int}{B:Nat}(h:nL ba d.list<=B):nL ba (gL d rev).1<=B:=by
 unfold gL
 split
 ·split
  ·exact gA
  ·split
   ·exact gA
   ·exact wS h
 ·exact gA
theorem Mw{α:Type}(l:List α)(m:Nat):l.take (min m l.length)=l.take m:=by
 rcases Nat.le_total m l.length with h|h
 ·rw[oZ h]
 ·rw[Nat.min_eq_right h,aD (aC _),aD h]
theorem Px(n:Net)(hl:fj n<=2^30)(r:Rep)(hr:cE r<=2^28)(many:Int):ar Tryz.prog 127 [.agg n.row,.agg r.row,.c (vi many)] (.tup [.agg (ma n.d r many).1.res,.c (vi (ma n.d r many).2) 1]):=by
 refine pci aq Tryz.func127 (λw0 base=>?_);obtain⟨d,l⟩:=n;unfold fj at hl;simp only at hl;simp[Net.row,Rep.row];intro b3 b4 b6;by_cases c1:many<0
 ·simp[c1,ma,Rep.res,Rep.zero]
 obtain⟨m,rfl⟩:∃m:Nat,many=m:=⟨many.toNat,aa⟩
 have e:ma d r m=if(gL d r.rev).2=0 then(if(gD r ((gL d r.rev).1.take m)).2=true then((gD r ((gL d r.rev).1.take m)).1,0)else(Rep.zero,1))else(Rep.zero,(gL d r.rev).2):=by
  unfold ma;rw[ak c1];rfl
 simp;refine ae.pure (Cf d aa r.rev) aS ?_;have hn:=NI (rev:=r.rev) (fc (d:=d) (B:=2^30) aa).1;generalize gL d r.rev=R at e hn⊢;obtain⟨L,code⟩:=R;simp only at e hn⊢;simp;intro H1;by_cases c2:code=0
 rotate_left
 ·rw[ak c2]at e
  simp[c2,e,Rep.res,Rep.zero]
 rw[al c2]at e;have hL:=bB hn;have hk:min m L.length<=L.length:=Nat.min_le_right ..;have hc:=Ld r hr (L.take (min m L.length)) (by have:=wQ (k:=min m L.length) hn;omega);rw[Mw]at hc;have hcut:=Bo hk;rw[Mw]at hcut;generalize gD r (L.take m)=Q at e hc;obtain⟨x_,ok⟩:=Q;simp only at e hc;simp[c2];refine jx (λx:Hd×Hd×Hd×Nat=>[(10,.p 160 x.2.2.2 0),(11,.v (.bool ok))]) (λx=>[(160,.vars x.2.2.2 90 [.v (.int .i64 x_.client),.v (.int .i64 x_.seq),.v (.int .i64 x_.rev),.sl 563 x.1 1 0 x_.text.length,.v (.bool x_.has),.sl 565 x.2.1 3 0 x_.sent.length,.sl 566 x.2.2.1 3 0 x_.buf.length]),(563,.rows x.1 1 (x_.text.map aN) true),(565,.rows x.2.1 3 (x_.sent.map Part.row) true),(566,.rows x.2.2.1 3 (x_.buf.map Part.row) true)]) [6] ?_ ?_
 ·refine drw eok mix [0,1,2,3,4,5,6] [7,8,9,10,11,12,13] (.c 7 7 65 62 (.c 7 8 0 62 (.c 7 9 0 62 (.c 7 10 0 62 (.c 7 11 0 62 (.c 7 12 62 0 (.c 7 13 0 0 (.l 7 0) .s) .s) .s) .s) .s) .s) (.c 7 11 0 127 (.c 7 7 65 62 (.c 7 8 0 62 (.c 7 9 0 62 (.c 7 10 0 62 (.c 7 12 62 0 (.c 7 13 0 0 (.l 7 0) .s) .s) .s) .s) .s) .s) .s)) ?_
  simp[By,hk]
  try intros
  repeat' first
   |(refine ae.pure (hc) (by simp[Rep.row,hcut,hk]) ?_;simp[Rep.res];try intros)
   |(rw[Trc];refine⟨?_,?_⟩<;>(try simp[By,hk])<;>try intros)
 rintro⟨G3,G5,G6,b10⟩
 simp
 cases ok with
 |false=>simp at e;simp[e,Rep.res,Rep.zero]
 |true=>simp at e;simp[e,Rep.res]
set_option maxHeartbeats 6400000
theorem tQ{d:Doc}(h:cf d):(cS d).length<=200:=by
 have h9:=(kO h (rev:=aA d) (by have:=dD h;omega) (YD _)).2.2.1.1;unfold cS;exact h9
theorem lB{l:List Rep}{i:Nat}{a b c d e f g:CD}:∀row∈(l.map Rep.row).set i [a,b,c,d,e,f,g],row.length=7:=by
 exact DY
theorem Cm{r:Rep}(h:cE r<=2^20):nL aM (eV r).2.1.o<=2^22:=by
 by_cases c:db r/\r.has=false/\¬qe r.buf/\r.seq≠999999999
 ·rw[pL c]
  unfold cE at h
  show nL aM r.buf<=_
  omega
 ·rw[mF c];simp[Call.zero,nL,dW]
theorem xM{r:Rep}(h:cE r<=2^20):nL aM (eC r).1.o<=2^22:=by
 unfold cE at h;unfold eC
 split
 ·show nL aM r.sent<=_
  omega
 ·simp[Call.zero,nL,dW]
theorem oO(n:Net)(hl:fj n<=2^28)(e:Event)(he:mo e<=2^40):ar Tryz.prog 33 [.agg n.row,.agg e.row] (.tup [.agg (dR n e).1.res,.c (vi (dR n e).2) 1]):=by
 refine pci aq Tryz.func33 (λw0 base=>?_);obtain⟨d,l⟩:=n;obtain⟨kind,who,many,o⟩:=e;have hl0:=hl;unfold fj at hl;unfold mo at he;simp only at hl he;have hle:=bB (f:=cE) (B:=2^28) (l:=l) aa;simp[Net.row,Event.row];intro b2 b3 b4;refine ae.pure (xg ⟨d,l⟩ aa) iN ?_;simp[Net.res];intro H2 H3 H4 H5 b6;refine ae.pure (vz ⟨d,l⟩ aa) iN ?_;have hno:¬abi ⟨d,l⟩ ⟨kind,who,many,o⟩->dR ⟨d,l⟩ ⟨kind,who,many,o⟩=(⟨d,l⟩,1):=I9;by_cases c1:gz ⟨d,l⟩
 rotate_left
 ·have e:=hno (λh=>c1 h.1)
  simp[aH c1,e]
 have ew:Go.IntKind.i64.wrap ((l.length:Int)-1)=(l.length:Int)-1:=ah _ aa;simp[c1,ew];refine ae.pure (bW who 0 ((l.length:Int)-1)) ab ?_;by_cases c2:0<=who/\who<=(l.length:Int)-1
 rotate_left
 ·exact RP
 simp[c2];refine ae.pure (bW kind 1 6) ab ?_;by_cases c3:1<=kind/\kind<=6
 rotate_left
 ·have e:=hno (λh=>c3 h.2.2)
  simp[aH c3,e]
 obtain⟨i,rfl⟩:∃i:Nat,who=i:=⟨who.toNat,aa⟩;have hi:i<l.length:=aa;have e:dR ⟨d,l⟩ ⟨kind,i,many,o⟩=HT ⟨d,l⟩ i l[i] ⟨kind,i,many,o⟩:=F9 (e:=⟨kind,i,many,o⟩) ⟨c1,kG,c3⟩ rfl hi;have hm:=q8 (c1.2.2 i hi).1;have hdn:=pN c1.1;have anew:=Wa c1 hi;simp only at hm anew;simp[c3];refine ae.pure (xg ⟨d,l⟩ aa) iN ?_;simp[Net.res,hi];intro K2 K3 K4 K5 b7 b11;unfold HT at e;simp only at e;generalize hr:l[i]=r at e hm anew;have hk:kind=1\/kind=2\/kind=3\/kind=4\/kind=5\/kind=6:=aa;rcases hk with rfl|rfl|rfl|rfl|rfl|rfl
 ·-- an edit
  have hc:=HD r aa o he;generalize jl r o=R at e hc;obtain⟨x_,ok⟩:=R;simp at e hc;simp;refine drw eok mix [0,1,2,3,4,5,10] [6,7,8,9,11,12] (.c 7 6 10 117 (.c 7 7 0 117 (.c 7 8 0 117 (.c 7 9 0 117 (.c 7 11 117 0 (.c 7 12 0 0 (.l 7 0) .s) .s) .s) .s) .s) .s) ?_;simp[hi,hr,Rep.row]
  try intros
  refine ae.pure (hc) dB ?_;simp[Rep.res,hi]
  try intros
  exact Sx
 ·-- sent
  have hcn:=Cm hm;have hc:=xI r hm;generalize eV r=R at e hc hcn;obtain⟨x_,c_,ok⟩:=R;simp at e hc hcn;simp[hi,hr,Rep.row];refine ae.pure hc dB ?_;simp[Rep.res,Call.res,hi];intros
  cases ok with
  |false=>simp at e;simp[e]
  |true=>
  simp at e;simp;refine inl aq Tryz.func125 20000 (λw1 F=>?_);simp;intros;have hs:=tI d aa c_.client c_.seq c_.n c_.o aa;unfold ri at e;generalize dv d c_.client c_.seq c_.n c_.o=S at e hs;obtain⟨D,rev,code⟩:=S;simp only at e hs;refine jx (λx:Hd×Hd×Hd×Nat=>[(4,.p 20064 x.2.2.2 0),(5,.v (.int .i64 rev)),(6,.v (.int .i64 code))]) (λx=>[(20064,.vars x.2.2.2 44 [.v (.string D.name),.v (.int .i64 D.fr),.sl 20322 x.1 1 0 D.text.length,.sl 20323 x.2.1 3 0 D.list.length,.sl 20324 x.2.2.1 3 0 D.seen.length]),(20322,.rows x.1 1 (D.text.map aN) true),(20323,.rows x.2.1 3 (D.list.map Entry.row) true),(20324,.rows x.2.2.1 3 (D.seen.map Seen.row) true)]) [0,3] ?_ ?_
  ·exact UX
  rintro⟨G2,G3,G4,bd⟩
  simp;exact Tz
 ·-- lost
  have hc:=xI r hm;generalize eV r=R at e hc;obtain⟨x_,c_,ok⟩:=R;simp at e hc;simp[hi,hr,Rep.row];refine ae.pure hc dB ?_;simp[Rep.res,Call.res,hi];intros;exact Sx
 ·-- again
  have hcn:=xM hm;have hc:=CW r hm;generalize eC r=R at e hc hcn;obtain⟨c_,ok⟩:=R;simp at e hc hcn;simp[hi,hr,Rep.row];refine ae.pure hc dB ?_;simp[Call.res];intros
  cases ok with
  |false=>simp at e;simp[e]
  |true=>
  simp at e;simp;refine inl aq Tryz.func125 20000 (λw1 F=>?_);simp;intros;have hs:=tI d aa c_.client c_.seq c_.n c_.o aa;unfold ri at e;generalize dv d c_.client c_.seq c_.n c_.o=S at e hs;obtain⟨D,rev,code⟩:=S;simp only at e hs;refine jx (λx:Hd×Hd×Hd×Nat=>[(4,.p 20064 x.2.2.2 0),(5,.v (.int .i64 rev)),(6,.v (.int .i64 code))]) (λx=>[(20064,.vars x.2.2.2 44 [.v (.string D.name),.v (.int .i64 D.fr),.sl 20322 x.1 1 0 D.text.length,.sl 20323 x.2.1 3 0 D.list.length,.sl 20324 x.2.2.1 3 0 D.seen.length]),(20322,.rows x.1 1 (D.text.map aN) true),(20323,.rows x.2.1 3 (D.list.map Entry.row) true),(20324,.rows x.2.2.1 3 (D.seen.map Seen.row) true)]) [0,3] ?_ ?_
  ·exact UX
  rintro⟨G2,G3,G4,bd⟩
  simp;exact R8
 ·-- polled
  have hc:=Px ⟨d,l⟩ aa r aa many;simp only at hc;generalize ma d r many=R at e hc;obtain⟨x_,code⟩:=R;simp at e hc;simp;refine drw eok mix [0,1,2,3,4,5,6,7,8,9,14] [10,11,12,13,15,16] (.c 11 10 522 1525 (.c 11 11 0 1525 (.c 11 12 0 1525 (.c 11 13 0 1525 (.c 11 15 1525 0 (.c 11 16 0 0 (.l 11 0) .s) .s) .s) .s) .s) .s) ?_;simp[hi,hr,Rep.row]
  try intros
  refine ae.pure (hc) (by simp[Net.row,Rep.row]) ?_;simp[Rep.res,hi]
  try intros
  by_cases hz:code=0
  ·rw[al hz]at e;simp[hz,e,mZ,Rep.row];exact lB
  ·rw[ak hz]at e;simp[hz,e]
 ·-- anew
  have hsc:=pH d aa r.client;have hx:=zT r.client (eD d r.client).1.seq (aA d) (cS d) (by have:=tQ (d:=d) c1.1;omega);unfold Ee at e;generalize fe r.client (eD d r.client).1.seq (aA d) (cS d)=R at e hx anew;generalize eD d r.client=S at hsc hx;obtain⟨sn,there⟩:=S;obtain⟨x_,ok⟩:=R;simp at e hx anew;simp;refine jx (λx:Nat=>[(12,.p 192 x 0),(13,.v (.bool there))]) (λx=>[(192,.vars x 140 [.v (.int .i64 sn.client),.v (.int .i64 sn.seq),.v (.int .i64 sn.rev)])]) [2,3,4,5,6,7,8,9,10,11] ?_ ?_
  ·refine drw eok mix [0,1,2,3,4,5] [6,7,8,9,10,11,12] (.c 6 6 17 46 (.c 6 7 0 46 (.c 6 8 0 46 (.c 6 9 0 46 (.c 6 10 0 46 (.c 6 11 46 0 (.c 6 12 0 0 (.l 6 0) .s) .s) .s) .s) .s) .s) (.c 6 10 0 63 (.c 6 6 17 46 (.c 6 7 0 46 (.c 6 8 0 46 (.c 6 9 0 46 (.c 6 11 46 0 (.c 6 12 0 0 (.l 6 0) .s) .s) .s) .s) .s) .s) .s)) ?_
   simp[hi,hr,Rep.row]
   try intros
   repeat' first
    |(refine ae.pure (hsc) aS ?_;simp[Seen.res];try intros)
    |(rw[Trc];refine⟨?_,?_⟩<;>(try simp[hi,hr,Rep.row])<;>try intros)
  rintro bs
  simp;refine drw eok mix [0,1,2,3,4,5,6,7,8,10,11,17] [9,12,13,14,15,16,18,19] (.c 12 9 8 4087 (.c 12 12 2 4085 (.c 12 13 160 3925 (.c 12 14 0 3925 (.c 12 15 0 3925 (.c 12 16 0 3925 (.c 12 18 3925 0 (.c 12 19 0 0 (.l 12 0) .s) .s) .s) .s) .s) .s) .s) .s) ?_;simp[hi,hr,Rep.row]
  try intros
  refine ae.pure (cY d) aS ?_;simp[hi,hr,Rep.row]
  try intros
  refine ae.pure (nj d aa) aS ?_;simp[hi,hr,Rep.row]
  try intros
  refine ae.pure (hx) ab ?_;simp[Rep.res,hi]
  try intros
  simp[anew,e,mZ,Rep.row];exact lB
theorem oH(n:Net)(hl:fj n<=2^28)(e:Event)(he:mo e<=2^40):ar Tryz.prog 19 [.agg n.row,.agg e.row] (.tup [.agg (dR n e).1.res,.c (vi (dR n e).2) 1]):=by
 refine pci aq Tryz.func19 (λw0 base=>?_);obtain⟨d,l⟩:=n;obtain⟨kind,who,many,o⟩:=e;have hl0:=hl;unfold fj at hl;unfold mo at he;simp only at hl he;have hle:=bB (f:=cE) (B:=2^28) (l:=l) aa;simp[Net.row,Event.row];intro b2 b3 b4;refine ae.pure (A5 ⟨d,l⟩ aa) iN ?_;simp[Net.res];intro H2 H3 H4 H5 b6;refine ae.pure (uT ⟨d,l⟩ aa) iN ?_;have hno:¬abi ⟨d,l⟩ ⟨kind,who,many,o⟩->dR ⟨d,l⟩ ⟨kind,who,many,o⟩=(⟨d,l⟩,1):=I9;by_cases c1:gz ⟨d,l⟩
 rotate_left
 ·have e:=hno (λh=>c1 h.1)
  simp[aH c1,e]
 have ew:Go.IntKind.i64.wrap ((l.length:Int)-1)=(l.length:Int)-1:=ah _ aa;simp[c1,ew];refine ae.pure (dH who 0 ((l.length:Int)-1)) ab ?_;by_cases c2:0<=who/\who<=(l.length:Int)-1
 rotate_left
 ·exact RP
 obtain⟨i,rfl⟩:∃i:Nat,who=i:=⟨who.toNat,aa⟩;have hi:i<l.length:=aa;have e:1<=kind/\kind<=6->dR ⟨d,l⟩ ⟨kind,i,many,o⟩=HT ⟨d,l⟩ i l[i] ⟨kind,i,many,o⟩:=λc3=>F9 (e:=⟨kind,i,many,o⟩) ⟨c1,kG,c3⟩ rfl hi
 have hm:=q8 (c1.2.2 i hi).1;have hdn:=pN c1.1;have anew:=Wa c1 hi;unfold HT at e;simp only at hm anew e;generalize hr:l[i]=r at e hm anew;simp[c2,hi,hr,Rep.row];intro b7;by_cases k1:kind=1
 ·subst k1
  replace e:=e aa;have hc:=G9 r aa o he;generalize jl r o=R at e hc;obtain⟨x_,ok⟩:=R;simp at e hc;simp;refine ae.pure hc dB ?_;simp[Rep.res];exact SQ
 by_cases k2:kind=2
 ·subst k2
  replace e:=e aa;have hcn:=Cm hm;have hc:=xA r hm;generalize eV r=R at e hc hcn;obtain⟨x_,c_,ok⟩:=R;simp at e hc hcn;simp;refine ae.pure hc dB ?_;simp[Rep.res,Call.res];intros
  cases ok with
  |false=>simp at e;simp[e]
  |true=>
  simp at e;simp[hi];refine inl aq Tryz.func80 20000 (λw1 F=>?_);simp;intros;have hs:=s6 d aa c_.client c_.seq c_.n c_.o aa;unfold ri at e;generalize dv d c_.client c_.seq c_.n c_.o=S at e hs;obtain⟨D,rev,code⟩:=S;simp only at e hs;refine ae.pure hs aS ?_;simp[Doc.res];intros;exact Tz
 by_cases k3:kind=3
 ·subst k3
  replace e:=e aa;have hc:=xA r hm;generalize eV r=R at e hc;obtain⟨x_,c_,ok⟩:=R;simp at e hc;simp;refine ae.pure hc dB ?_;simp[Rep.res,Call.res];exact SQ
 by_cases k4:kind=4
 ·subst k4
  replace e:=e aa;have hcn:=xM hm;have hc:=CO r hm;generalize eC r=R at e hc hcn;obtain⟨c_,ok⟩:=R;simp at e hc hcn;simp;refine ae.pure hc dB ?_;simp[Call.res];intros
  cases ok with
  |false=>simp at e;simp[e]
  |true=>
  simp at e;simp;refine inl aq Tryz.func80 20000 (λw1 F=>?_);simp;intros;have hs:=s6 d aa c_.client c_.seq c_.n c_.o aa;unfold ri at e;generalize dv d c_.client c_.seq c_.n c_.o=S at e hs;obtain⟨D,rev,code⟩:=S;simp only at e hs;refine ae.pure hs aS ?_;simp[Doc.res];intros;exact R8
 by_cases k5:kind=5
 ·subst k5
  replace e:=e aa;simp;refine inl aq Tryz.func82 20000 (λw1 F=>?_);simp;intros;have hf:=BR d aa r.rev;have hn:=NI (rev:=r.rev) (fc (d:=d) (B:=2^30) aa).1;unfold ma at e;generalize gL d r.rev=R at e hf hn;obtain⟨L,code⟩:=R;simp only at e hf hn;refine drw eok mix [0,1,2,3,4,5,6,7] [8,9,10,11,12,13] (.c 8 8 65 190 (.c 8 9 0 190 (.c 8 10 0 190 (.c 8 11 0 190 (.c 8 12 190 0 (.c 8 13 0 0 (.l 8 0) .s) .s) .s) .s) .s) .s) ?_;simp[hi,hr,Rep.row]
  try intros
  refine ae.pure (hf) aS ?_;simp
  try intros
  by_cases hng:many<0
  ·rw[al hng]at e
   simp at e;simp[hng,e]
  obtain⟨m,rfl⟩:∃m:Nat,many=m:=⟨many.toNat,aa⟩;rw[ak hng]at e;by_cases hz:code=0
  rotate_left
  ·rw[ak hz]at e
   simp[hz]at e;simp[hz,e]
  rw[al hz]at e;have hL:=bB hn;simp[hz];by_cases hgt:L.length<m
  ·have hcut:=Bo (l:=L) (k:=L.length) (aC _)
   have hc:=zn r aa (L.take L.length) (by have:=wQ (k:=L.length) hn;omega);simp only[bm]at e;rw[aD aa]at e;rw[dn]at hc hcut;generalize gD r L=Q at e hc;obtain⟨x_,ok⟩:=Q;simp only at e hc;have hle2:L.length<=L.length:=aC _;simp[hgt];refine drw eok mix [0,1,2,3,4,5,6,7] [8,9,10,11,12,13,14] (.c 8 8 9 246 (.c 8 9 0 246 (.c 8 10 0 246 (.c 8 11 0 246 (.c 8 12 0 246 (.c 8 13 246 0 (.c 8 14 0 0 (.l 8 0) .s) .s) .s) .s) .s) .s) (.c 8 12 0 255 (.c 8 8 9 246 (.c 8 9 0 246 (.c 8 10 0 246 (.c 8 11 0 246 (.c 8 13 246 0 (.c 8 14 0 0 (.l 8 0) .s) .s) .s) .s) .s) .s) .s)) ?_;simp[hi,hr,Rep.row]
   try intros
   repeat' first
    |(refine ae.pure (hc) (by simp[hcut,Rep.row]) ?_;simp[Rep.res];try intros)
    |(rw[Trc];refine⟨?_,?_⟩<;>(try simp[hi,hr,Rep.row])<;>try intros)
   all_goals
    cases ok with
    |false=>simp at e;simp[e]
    |true=>simp at e;simp[e,mZ,Rep.row,hi];exact lB
  ·have hle2:m<=L.length:=by omega
   have hcut:=Bo (l:=L) (k:=m) hle2;have hc:=zn r aa (L.take m) (by have:=wQ (k:=m) hn;omega);simp only[bm]at e;generalize gD r (L.take m)=Q at e hc;obtain⟨x_,ok⟩:=Q;simp only at e hc;simp[hgt];refine drw eok mix [0,1,2,3,4,5,6,7] [8,9,10,11,12,13,14] (.c 8 8 9 246 (.c 8 9 0 246 (.c 8 10 0 246 (.c 8 11 0 246 (.c 8 12 0 246 (.c 8 13 246 0 (.c 8 14 0 0 (.l 8 0) .s) .s) .s) .s) .s) .s) (.c 8 12 0 255 (.c 8 8 9 246 (.c 8 9 0 246 (.c 8 10 0 246 (.c 8 11 0 246 (.c 8 13 246 0 (.c 8 14 0 0 (.l 8 0) .s) .s) .s) .s) .s) .s) .s)) ?_;simp[hi,hr,Rep.row,hle2]
   try intros
   repeat' first
    |(refine ae.pure (hc) (by simp[hcut,Rep.row,hle2]) ?_;simp[Rep.res];try intros)
    |(rw[Trc];refine⟨?_,?_⟩<;>(try simp[hi,hr,Rep.row,hle2])<;>try intros)
   all_goals
    cases ok with
    |false=>simp at e;simp[e]
    |true=>simp at e;simp[e,mZ,Rep.row,hi];exact lB
 by_cases k6:kind=6
 ·subst k6
  replace e:=e aa;have hsc:=pB d aa r.client;have hx:=zm r.client (eD d r.client).1.seq (aA d) (cS d) (by have:=tQ (d:=d) c1.1;omega);unfold Ee at e;generalize fe r.client (eD d r.client).1.seq (aA d) (cS d)=R at e hx anew;generalize eD d r.client=S at hsc hx;obtain⟨sn,there⟩:=S;obtain⟨x_,ok⟩:=R;simp at e hx anew;simp;refine ae.pure hsc aS ?_;simp[Seen.res];intros;refine drw eok mix [0,1,2,3,4,5,6,7,8,9,11,12,18] [10,13,14,15,16,17,19] (.c 13 10 8 8183 (.c 13 13 2 8181 (.c 13 14 160 8021 (.c 13 15 0 8021 (.c 13 16 0 8021 (.c 13 17 0 8021 (.c 13 19 8021 0 (.l 13 0) .s) .s) .s) .s) .s) .s) .s) ?_;simp[hi]
  try intros
  refine ae.pure (cX d) aS ?_;simp
  try intros
  refine ae.pure (kS d aa) aS ?_;simp
  try intros
  refine ae.pure (hx) ab ?_;simp[Rep.res,hi]
  try intros
  simp[e,mZ,Rep.row];exact lB
 have e:=hno (λh=>by have:=h.2.2;simp only at this;omega);simp[k1,k2,k3,k4,k5,k6,e]
set_option maxHeartbeats 12800000
theorem Ck{n:Net}(h:gz n):jE n=(eE n 6,dc (pG (eE n 6))):=by unfold jE;rw[al h]
theorem F4{n:Net}(h:¬gz n):jE n=(Net.zero,false):=by unfold jE;rw[ak h]
theorem Ik{n:Net}{i:Nat}(h:FX n i=true):qE n i=(dR n ⟨4,i,0,[]⟩).1:=by unfold qE;rw[al h]
theorem Mr{n:Net}{i:Nat}(h:FX n i=false):qE n i=n:=by unfold qE;rw[ak (by rw[h];simp)]
theorem Mq{n:Net}{i:Nat}(h:(qD n i).2=3):AG n i=(dR (qD n i).1 ⟨6,i,0,[]⟩).1:=by unfold AG;rw[al h]
theorem Qt{n:Net}{i:Nat}(h:¬(qD n i).2=3):AG n i=(qD n i).1:=by unfold AG;rw[ak h]
theorem NL(k w n:Int):mo ⟨k,w,n,[]⟩<=2^40:=by simp[mo,nL,dW]
theorem Lb(n:Net)(hl:fj n<=2^26):ar Tryz.prog 40 [.agg n.row] (.tup [.agg (jE n).1.res,.c (.v (.bool (jE n).2)) 1]):=by
 refine pci aq Tryz.func40 (λw0 base=>?_);obtain⟨d,reps⟩:=n;simp[Net.row];intro b1 b2;refine ae.pure (vz ⟨d,reps⟩ aa) iN ?_;by_cases c1:gz ⟨d,reps⟩
 rotate_left
 ·simp[aH c1,F4 c1,Net.res,Net.zero,Doc.zero]
 have hS:=Ck c1;have hlen:reps.length<=4:=c1.2.1.2;simp[c1];refine ae.pure (xg ⟨d,reps⟩ aa) iN ?_;simp[Net.res];intro H2 H3 H4 H5 b4
 refine aE eok (λx:(Nat×Nat)×Hd×Hd×Hd×Hd=>(x.1.2=224\/x.1.2=784\/x.1.2=944)/\x.1.1<=6) (λx=>⟨66,0,[(5,.v (.int .i64 x.1.1)),(2,.p 32 b2 0),(4,.p 64 b4 0)],
  [(64, .vars b4 47 [.v (.string (eE ⟨d,reps⟩ x.1.1).d.name), .v (.int .i64 (eE ⟨d,reps⟩ x.1.1).d.fr), .sl (x.1.2+2) x.2.1 1 0 (eE ⟨d,reps⟩ x.1.1).d.text.length, .sl (x.1.2+3) x.2.2.1 3 0 (eE ⟨d,reps⟩ x.1.1).d.list.length, .sl (x.1.2+4) x.2.2.2.1 3 0 (eE ⟨d,reps⟩ x.1.1).d.seen.length, .sl (x.1.2+5) x.2.2.2.2 7 0 (eE ⟨d,reps⟩ x.1.1).reps.length]),
   (32,.vars b2 47 [.v (.string ⟨#[]⟩),.v (.int .i64 0),.nil,.nil,.nil,.nil]),
   (x.1.2+2,.rows x.2.1 1 ((eE ⟨d,reps⟩ x.1.1).d.text.map aN) true),(x.1.2+3,.rows x.2.2.1 3 ((eE ⟨d,reps⟩ x.1.1).d.list.map Entry.row) true),(x.1.2+4,.rows x.2.2.2.1 3 ((eE ⟨d,reps⟩ x.1.1).d.seen.map Seen.row) true),(x.1.2+5,.rows x.2.2.2.2 7 ((eE ⟨d,reps⟩ x.1.1).reps.map Rep.row) true)]⟩) (λx=>6-x.1.1) ((0,224),H2,H3,H4,H5) ab (by simp[eE]) (λx hx=>Ent.refl ?_)
 obtain⟨⟨r,k⟩,G2,G3,G4,G5⟩:=x;obtain⟨hk,hr⟩:=hx;simp only at hk hr⊢;have hn:=zC (n:=⟨d,reps⟩) (B:=2^26) aa hl r;have hln:=yp ⟨d,reps⟩ r;simp only at hln;by_cases hlt:r<6
 rotate_left
 ·have:r=6:=by omega
  subst this;generalize eE ⟨d,reps⟩ 6=N at hn hln hS⊢;obtain⟨⟨nm,fr,tx,ls,sn⟩,rp⟩:=N;simp only at hln hS;rcases hk with rfl|rfl|rfl
  all_goals
   simp;refine drw eok mix [0,1] [2,3,4] (.c 2 2 1 2 (.c 2 3 2 0 (.c 2 4 0 0 (.l 2 0) .s) .s) .s) ?_;simp
   try intros
   refine ae.pure (HF ⟨⟨nm,fr,tx,ls,sn⟩,rp⟩ aa) iN ?_;simp
   try intros
   simp[hS]
 have hrlt:(r:Int)<6:=aa;have hsuc:eE ⟨d,reps⟩ (r+1)=bC (eE ⟨d,reps⟩ r) reps.length:=rfl;have ew:Go.IntKind.i64.wrap ((r:Int)+1)=((r+1:Nat):Int):=aZ aa;generalize eE ⟨d,reps⟩ r=N at hn hln hsuc⊢;simp[hrlt]
 refine aE eok (λx:(Nat×Nat)×Hd×Hd×Hd×Hd=>(x.1.2=224\/x.1.2=784\/x.1.2=944)/\x.1.1<=reps.length) (λx=>⟨66,0,[(22,.v (.int .i64 x.1.1)),(21,.v (.int .i64 reps.length)),(5,.v (.int .i64 r)),(2,.p 32 b2 0),(4,.p 64 b4 0)],
  [(64, .vars b4 47 [.v (.string (bC N x.1.1).d.name), .v (.int .i64 (bC N x.1.1).d.fr), .sl (x.1.2+2) x.2.1 1 0 (bC N x.1.1).d.text.length, .sl (x.1.2+3) x.2.2.1 3 0 (bC N x.1.1).d.list.length, .sl (x.1.2+4) x.2.2.2.1 3 0 (bC N x.1.1).d.seen.length, .sl (x.1.2+5) x.2.2.2.2 7 0 (bC N x.1.1).reps.length]),
   (32,.vars b2 47 [.v (.string ⟨#[]⟩),.v (.int .i64 0),.nil,.nil,.nil,.nil]),
   (x.1.2+2,.rows x.2.1 1 ((bC N x.1.1).d.text.map aN) true),(x.1.2+3,.rows x.2.2.1 3 ((bC N x.1.1).d.list.map Entry.row) true),(x.1.2+4,.rows x.2.2.2.1 3 ((bC N x.1.1).d.seen.map Seen.row) true),(x.1.2+5,.rows x.2.2.2.2 7 ((bC N x.1.1).reps.map Rep.row) true)]⟩) (λx=>reps.length-x.1.1) ((0,k),G2,G3,G4,G5) ⟨hk,ab⟩ (by rcases hk with rfl|rfl|rfl<;>simp[bC,hln]) (λx hx=>Ent.refl ?_)
 obtain⟨⟨i,k'⟩,U2,U3,U4,U5⟩:=x;obtain⟨hk',hi⟩:=hx;simp only at hk' hi⊢;have hm:=wN (n:=N) (B:=2^26) aa hn i;have hml:=qZ N i;rw[hln]at hml;have ti:=Ox (n:=bC N i) (i:=i) (B:=2^26) aa hm;by_cases hlt2:i<reps.length
 rotate_left
 ·exact Ub
 have hsuc2:bC N (i+1)=AG (bC N i) i:=rfl;have ewi:Go.IntKind.i64.wrap ((i:Int)+1)=((i+1:Nat):Int):=aZ aa;have hti:xw (bC N i) i=(dR (qE (bC N i) i) ⟨2,i,0,[]⟩).1:=rfl;have htc:qD (bC N i) i=dR (xw (bC N i) i) ⟨5,i,8,[]⟩:=rfl;have hty:=@Mq (bC N i) i;have htn:=@Qt (bC N i) i;have hay:=@Ik (bC N i) i;have han:=@Mr (bC N i) i;have hha:∀rr,(bC N i).reps[i]? = some rr->FX (bC N i) i=rr.has:=λrr h=>by unfold FX;rw[h]
 generalize AG (bC N i) i=Z at hsuc2 hty htn ti;generalize qD (bC N i) i=C at htc hty htn ti;generalize xw (bC N i) i=B at hti htc ti;generalize qE (bC N i) i=A at hti hay han ti;generalize bC N i=M at hm hml hay han hha ti⊢;obtain⟨⟨nm,fr,tx,ls,sn⟩,rp⟩:=M;obtain⟨tA,tB,tC,tZ⟩:=ti;simp only at hml hha;have hrp:i<rp.length:=aa;obtain⟨rr,hrr⟩:∃rr,rp[i]=rr:=⟨_,rfl⟩;replace hha:=hha rr (by rw[au hrp,hrr]);have cB:=oO A aa ⟨2,i,0,[]⟩ (NL _ _ _);rw[show dR A ⟨2,i,0,[]⟩=(B,(dR A ⟨2,i,0,[]⟩).2)from by rw[hti]]at cB;generalize (dR A ⟨2,i,0,[]⟩).2=codeB at cB;have cC:=oO B aa ⟨5,i,8,[]⟩ (NL _ _ _);rw[<-htc]at cC;obtain⟨C1,code⟩:=C
 have cZ:=oO C1 (by simp only at tC;omega) ⟨6,i,0,[]⟩ (NL _ _ _);simp only at hty htn cC
 clear hti htc
 obtain⟨⟨n2,f2,t2,l2,s2⟩,r2⟩:=B;obtain⟨⟨n3,f3,t3,l3,s3⟩,r3⟩:=C1;simp only at cB cC
 cases hh:rr.has with
 | true =>
   have hA:=hay (hha.trans hh);have cA:=oO ⟨⟨nm,fr,tx,ls,sn⟩,rp⟩ aa ⟨4,i,0,[]⟩ (NL _ _ _);exact Q6
 | false =>
   exact Q0
theorem Ky(n:Net)(hl:fj n<=2^26):ar Tryz.prog 22 [.agg n.row] (.tup [.agg (jE n).1.res,.c (.v (.bool (jE n).2)) 1]):=by
 refine pci aq Tryz.func22 (λw0 base=>?_);obtain⟨d,reps⟩:=n;simp[Net.row];intro b1 b2;refine ae.pure (uT ⟨d,reps⟩ aa) iN ?_;by_cases c1:gz ⟨d,reps⟩
 rotate_left
 ·simp[aH c1,F4 c1,Net.res,Net.zero,Doc.zero]
 have hS:=Ck c1;have hlen:reps.length<=4:=c1.2.1.2;simp[c1];refine ae.pure (A5 ⟨d,reps⟩ aa) iN ?_;simp[Net.res];intro H2 H3 H4 H5 b4
 refine aE eok (λx:(Nat×Nat)×Hd×Hd×Hd×Hd=>(x.1.2=224\/x.1.2=784\/x.1.2=944)/\x.1.1<=6) (λx=>⟨66,0,[(5,.v (.int .i64 x.1.1)),(2,.p 32 b2 0),(4,.p 64 b4 0),(1,.p 16 b1 0)],
  [(64, .vars b4 47 [.v (.string (eE ⟨d,reps⟩ x.1.1).d.name), .v (.int .i64 (eE ⟨d,reps⟩ x.1.1).d.fr), .sl (x.1.2+2) x.2.1 1 0 (eE ⟨d,reps⟩ x.1.1).d.text.length, .sl (x.1.2+3) x.2.2.1 3 0 (eE ⟨d,reps⟩ x.1.1).d.list.length, .sl (x.1.2+4) x.2.2.2.1 3 0 (eE ⟨d,reps⟩ x.1.1).d.seen.length, .sl (x.1.2+5) x.2.2.2.2 7 0 (eE ⟨d,reps⟩ x.1.1).reps.length]),
   (32,.vars b2 47 [.v (.string ⟨#[]⟩),.v (.int .i64 0),.nil,.nil,.nil,.nil]),
   (16,.vars b1 47 [.v (.string d.name),.v (.int .i64 d.fr),.ro (d.text.map aN),.ro (d.list.map Entry.row),.ro (d.seen.map Seen.row),.ro (reps.map Rep.row)]),(x.1.2+2,.rows x.2.1 1 ((eE ⟨d,reps⟩ x.1.1).d.text.map aN) true),(x.1.2+3,.rows x.2.2.1 3 ((eE ⟨d,reps⟩ x.1.1).d.list.map Entry.row) true),(x.1.2+4,.rows x.2.2.2.1 3 ((eE ⟨d,reps⟩ x.1.1).d.seen.map Seen.row) true),(x.1.2+5,.rows x.2.2.2.2 7 ((eE ⟨d,reps⟩ x.1.1).reps.map Rep.row) true)]⟩) (λx=>6-x.1.1) ((0,224),H2,H3,H4,H5) ab (by simp[eE]) (λx hx=>Ent.refl ?_)
 obtain⟨⟨r,k⟩,G2,G3,G4,G5⟩:=x;obtain⟨hk,hr⟩:=hx;simp only at hk hr⊢;have hn:=zC (n:=⟨d,reps⟩) (B:=2^26) aa hl r;have hln:=yp ⟨d,reps⟩ r;simp only at hln;by_cases hlt:r<6
 rotate_left
 ·have:r=6:=by omega
  subst this;generalize eE ⟨d,reps⟩ 6=N at hn hln hS⊢;obtain⟨⟨nm,fr,tx,ls,sn⟩,rp⟩:=N;simp only at hln hS;rcases hk with rfl|rfl|rfl
  all_goals
   simp;refine drw eok mix [0,1] [2,3,4] (.c 2 2 1 2 (.c 2 3 2 0 (.c 2 4 0 0 (.l 2 0) .s) .s) .s) ?_;simp
   try intros
   refine ae.pure (Hc ⟨⟨nm,fr,tx,ls,sn⟩,rp⟩ aa) iN ?_;simp
   try intros
   simp[hS]
 have hrlt:(r:Int)<6:=aa;have hsuc:eE ⟨d,reps⟩ (r+1)=bC (eE ⟨d,reps⟩ r) reps.length:=rfl;have ew:Go.IntKind.i64.wrap ((r:Int)+1)=((r+1:Nat):Int):=aZ aa;generalize eE ⟨d,reps⟩ r=N at hn hln hsuc⊢;simp[hrlt]
 refine aE eok (λx:(Nat×Nat)×Hd×Hd×Hd×Hd=>(x.1.2=224\/x.1.2=784\/x.1.2=944)/\x.1.1<=reps.length) (λx=>⟨66,0,[(22,.v (.int .i64 x.1.1)),(21,.v (.int .i64 reps.length)),(5,.v (.int .i64 r)),(2,.p 32 b2 0),(4,.p 64 b4 0),(1,.p 16 b1 0)],
  [(64, .vars b4 47 [.v (.string (bC N x.1.1).d.name), .v (.int .i64 (bC N x.1.1).d.fr), .sl (x.1.2+2) x.2.1 1 0 (bC N x.1.1).d.text.length, .sl (x.1.2+3) x.2.2.1 3 0 (bC N x.1.1).d.list.length, .sl (x.1.2+4) x.2.2.2.1 3 0 (bC N x.1.1).d.seen.length, .sl (x.1.2+5) x.2.2.2.2 7 0 (bC N x.1.1).reps.length]),
   (32,.vars b2 47 [.v (.string ⟨#[]⟩),.v (.int .i64 0),.nil,.nil,.nil,.nil]),
   (16,.vars b1 47 [.v (.string d.name),.v (.int .i64 d.fr),.ro (d.text.map aN),.ro (d.list.map Entry.row),.ro (d.seen.map Seen.row),.ro (reps.map Rep.row)]),(x.1.2+2,.rows x.2.1 1 ((bC N x.1.1).d.text.map aN) true),(x.1.2+3,.rows x.2.2.1 3 ((bC N x.1.1).d.list.map Entry.row) true),(x.1.2+4,.rows x.2.2.2.1 3 ((bC N x.1.1).d.seen.map Seen.row) true),(x.1.2+5,.rows x.2.2.2.2 7 ((bC N x.1.1).reps.map Rep.row) true)]⟩) (λx=>reps.length-x.1.1) ((0,k),G2,G3,G4,G5) ⟨hk,ab⟩ (by rcases hk with rfl|rfl|rfl<;>simp[bC,hln]) (λx hx=>Ent.refl ?_)
 obtain⟨⟨i,k'⟩,U2,U3,U4,U5⟩:=x;obtain⟨hk',hi⟩:=hx;simp only at hk' hi⊢;have hm:=wN (n:=N) (B:=2^26) aa hn i;have hml:=qZ N i;rw[hln]at hml;have ti:=Ox (n:=bC N i) (i:=i) (B:=2^26) aa hm;by_cases hlt2:i<reps.length
 rotate_left
 ·exact Ub
 have hsuc2:bC N (i+1)=AG (bC N i) i:=rfl;have ewi:Go.IntKind.i64.wrap ((i:Int)+1)=((i+1:Nat):Int):=aZ aa;have hti:xw (bC N i) i=(dR (qE (bC N i) i) ⟨2,i,0,[]⟩).1:=rfl;have htc:qD (bC N i) i=dR (xw (bC N i) i) ⟨5,i,8,[]⟩:=rfl;have hty:=@Mq (bC N i) i;have htn:=@Qt (bC N i) i;have hay:=@Ik (bC N i) i;have han:=@Mr (bC N i) i;have hha:∀rr,(bC N i).reps[i]? = some rr->FX (bC N i) i=rr.has:=λrr h=>by unfold FX;rw[h]
 generalize AG (bC N i) i=Z at hsuc2 hty htn ti;generalize qD (bC N i) i=C at htc hty htn ti;generalize xw (bC N i) i=B at hti htc ti;generalize qE (bC N i) i=A at hti hay han ti;generalize bC N i=M at hm hml hay han hha ti⊢;obtain⟨⟨nm,fr,tx,ls,sn⟩,rp⟩:=M;obtain⟨tA,tB,tC,tZ⟩:=ti;simp only at hml hha;have hrp:i<rp.length:=aa;obtain⟨rr,hrr⟩:∃rr,rp[i]=rr:=⟨_,rfl⟩;replace hha:=hha rr (by rw[au hrp,hrr]);have cB:=oH A aa ⟨2,i,0,[]⟩ (NL _ _ _);rw[show dR A ⟨2,i,0,[]⟩=(B,(dR A ⟨2,i,0,[]⟩).2)from by rw[hti]]at cB;generalize (dR A ⟨2,i,0,[]⟩).2=codeB at cB;have cC:=oH B aa ⟨5,i,8,[]⟩ (NL _ _ _);rw[<-htc]at cC;obtain⟨C1,code⟩:=C
 have cZ:=oH C1 (by simp only at tC;omega) ⟨6,i,0,[]⟩ (NL _ _ _);simp only at hty htn cC
 clear hti htc
 obtain⟨⟨n2,f2,t2,l2,s2⟩,r2⟩:=B;obtain⟨⟨n3,f3,t3,l3,s3⟩,r3⟩:=C1;simp only at cB cC
 cases hh:rr.has with
 | true =>
   have hA:=hay (hha.trans hh);have cA:=oH ⟨⟨nm,fr,tx,ls,sn⟩,rp⟩ aa ⟨4,i,0,[]⟩ (NL _ _ _);exact Q6
 | false =>
   exact Q0
theorem Ls{room rev:Int}(h:dw (fS room rev)):iq room rev=(fS room rev,true):=by unfold iq;rw[al h]
theorem Cl{room rev:Int}(h:¬dw (fS room rev)):iq room rev=(Ring.zero,false):=by unfold iq;rw[ak h]
theorem va(room rev:Int):eJ (fS room rev)=0:=by simp[eJ,fS,nL,dW]
theorem F5(room rev:Int):eJ (iq room rev).1=0:=by
 unfold iq
 split
 ·exact va _ _
 ·simp[Ring.zero,eJ,nL,dW]
theorem Ab{r:Ring}{e:Entry}(h:¬(dw r/\dr e/\r.out=false)):fw r e=r:=by unfold fw;rw[ak h]
theorem vH{r:Ring}{e:Entry}(h:dw r/\dr e/\r.out=false)(hc:(r.list.length:Int)=r.cap):fw r e=⟨r.cap,r.next,true,[]⟩:=by unfold fw;rw[al h,al hc]
theorem vG{r:Ring}{e:Entry}(h:dw r/\dr e/\r.out=false)(hc:¬(r.list.length:Int)=r.cap):fw r e=⟨r.cap,r.next,r.out,r.list++[e]⟩:=by unfold fw;rw[al h,ak hc]
theorem ND(r:Ring)(e:Entry):eJ (fw r e)<=eJ r+ba e+1:=by
 unfold fw
 split
 ·split
  ·simp[eJ,nL,dW]
  ·simp only[eJ]
   rw[kz];simp[nL,dW];omega
 ·omega
theorem Ac{r:Ring}{n:Int}(h:¬(dw r/\1<=n)):dx r n=(r,[],1):=by unfold dx;rw[ak h]
theorem rG{r:Ring}{n:Int}(h:dw r/\1<=n)(ho:r.out=true):dx r n=(r,[],9):=by unfold dx;rw[al h,al ho]
theorem oz{r:Ring}{n:Int}(h:dw r/\1<=n)(ho:r.out=false){k:Nat}(hk:k=min n.toNat r.list.length):dx r n=(⟨r.cap,r.next+k,r.out,r.list.drop k⟩,r.list.take k,0):=by
 unfold dx;rw[al h,ak (by rw[ho];simp)];subst hk;rcases Nat.le_total n.toNat r.list.length with h1|h1
 ·rw[oZ h1]
 ·rw[Nat.min_eq_right h1,bE h1,bE (aC _),aD h1,aD (aC _)]
theorem NF(r:Ring)(n:Int):eJ (dx r n).1<=eJ r/\nL ba (dx r n).2.1<=eJ r:=by
 unfold dx
 split
 ·split
  ·exact gA
  ·refine⟨?_,wQ (aC _)⟩
   show nL ba (r.list.drop n.toNat)<=nL ba r.list
   have h:=kz (f:=ba) (r.list.take n.toNat) (r.list.drop n.toNat);rw[iw]at h;omega
 ·exact gA
theorem uB{r:Ring}{rev:Int}(h:dw r):ed r rev=iq r.cap rev:=by unfold ed;rw[al h]
theorem vF{r:Ring}{rev:Int}(h:¬dw r):ed r rev=(Ring.zero,false):=by unfold ed;rw[ak h]
end Go.Proofs.YtdeimojjhhdeaaaGreatDoor
