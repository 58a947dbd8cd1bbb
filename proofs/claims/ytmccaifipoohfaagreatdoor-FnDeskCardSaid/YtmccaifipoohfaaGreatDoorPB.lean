import Derived.Test.YtmccaifipoohfaaGreatDoorPA
import Derived.Test.YtmccaifipoohfaaGreatDoorMF
import Derived.Test.YtmccaifipoohfaaGreatDoorNA
namespace Go.Proofs.YtmccaifipoohfaaGreatDoor
open Go.AM
set_option maxRecDepth 20000
theorem acy(s:List Int){n:Nat}(_h:n<=s.length):cut (s.map aX) 0 n=(s.take n).map aX:=by
 unfold cut
 split
 ·rename_i h2
  rw[aC (by simp at h2;omega)]
 ·simp
theorem acz(s:List Int){n:Nat}:cut (s.map aX) n (s.length-n)=(s.drop n).map aX:=by
 unfold cut
 split
 ·rename_i h2
  rw[h2.1];simp
 ·rw[aC ab,zB]
theorem Jn{w0:World}{bF bG:Nat->Prop}{bl:Bool}{st:ASt}{dst:Option Nat}{K:ASt->Prop}{kx b n:Nat}{p:Part}{l:List Part}(hk:kx<15000)(hp:aS p)(hn:n<=psz p)(hl:l.length<=2^20)
 (g:st.h.get kx=.vars b 231 [.ro ((p::l).map Part.row)])
 (hK:∀h',AH.get h' kx=.vars b 231 [.ro ((cf p n::l).map Part.row)]->(∀q,q≠kx->q<15000->AH.get h' q=st.h.get q)->cX ⟨st.n,st.kb,st.t,h'⟩ dst (hdV [gl p n]) K) :
 ae ⟨Tryz.prog,tt,w0,⟨bF,bG,bl,λ_=>True⟩⟩ 254 [.p kx b 0,.v (.int .i64 n)] st dst K:=by
 refine Ji au Tryz.func254 ah rfl rfl rfl (ao rfl) 20000 (λw1 F=>?_);have hps:=jY hp;have hb:=hp.bounds;have k0:¬kx=20064:=aa;have k1:¬kx=20080:=aa;have k2:¬kx=20096:=aa;have k3:¬kx=20112:=aa;have k4:¬kx=20608:=aa;have j0:¬20064=kx:=aa;have j1:¬20080=kx:=aa;have j2:¬20096=kx:=aa;have j3:¬20112=kx:=aa;have j4:¬20608=kx:=aa;simp[g,Part.row,k0];intro b4 b5
 refine cF.cut (λx:Nat×Nat=>⟨48,20000,[(0,.p kx b 0),(1,.v (.int .i64 n)),(4,.p 20064 b4 0),(5,.p 20080 b5 0),(6,.p 20096 x.1 0),(7,.p 20112 x.2 0)],
  (20096,.vars x.1 211 [.v (.int .i64 p.kind),.v (.int .i64 p.n),.ro (p.signs.map aX)])::(20112,.vars x.2 211 [.v (.int .i64 p.kind),.v (.int .i64 p.n),.ro (p.signs.map aX)])::(20080,.vars b5 211 [.v (.int .i64 p.kind),.v (.int .i64 p.n),.ro (p.signs.map aX)])::(20064,.vars b4 211 [.v (.int .i64 0),.v (.int .i64 0),.nil])::st.h⟩) ?_ ?_
 ·refine drw eok mix [0,1] [2,3,4,5] (.c 2 2 0 3 (.c 2 3 0 3 (.c 2 4 2 1 (.c 2 5 1 0 (.l 2 0) .s) .s) .s) (.c 2 3 0 3 (.c 2 2 0 3 (.c 2 4 2 1 (.c 2 5 1 0 (.l 2 0) .s) .s) .s) .s)) ?_
  simp;rw[Trc];refine⟨?_,?_⟩<;>simp
 rintro⟨b6,b7⟩
 simp;by_cases hk2:p.kind=2
 ·simp[hk2]
  refine drw eok mix [0,1,2,3,4,5,6,7,8,10] [9,11] (.c 10 9 962 61 (.c 10 11 61 0 (.l 10 0) .s) .s) ?_;have hns:n<=p.signs.length:=by have:=hb.2.2.2.2.1 hk2;omega
  simp[hns];refine drw eok mix [0,1,3,4,5,6,7,9,10] [2,8,11] (.c 9 2 128 383 (.c 9 8 4 379 (.c 9 11 377 2 (.l 9 2) .s) .s) .s) ?_
  have ct:cut ([vi p.kind,vi p.n,CD.s (p.signs.map aX)]::l.map Part.row) 1 l.length=l.map Part.row:=by
   simp[cut];exact EC
  have hv:hdV [gl p n]=.agg [.v (.int .i64 2),.v (.int .i64 p.n),.ro ((p.signs.map aX).take n)]:=by simp[hdV,gl,hk2]
  rw[hv]at hK;simp[g,Part.row,k0,k1,k2,k3,k4,j0,j3,ct,acy p.signs hns,acz p.signs];intro b8;refine⟨aa,λH=>⟨_,Qh (kx:=kx) (b:=b) (T:=231) (cells:=[.sl 20608 H 3 0 (1+l.length)]) (j:=0) (k:=20608) (sz:=3) (off:=0) (len:=1+l.length) (H:=H) (rows:=(cf p n).row::l.map Part.row) (own:=false) ?_ rfl ?_ aJ,?_⟩⟩
  ·simp[k0]
  ·simp[j4,Part.row,cf,hk2]
  ·refine hK _ ?_ (λq q1 q2=>?_)
   ·simp[cut,Dw]
   ·repeat (first|exact rfl|refine(dw aa).trans ?_)
 ·simp[hk2]
  refine drw eok mix [0,1,2,3,4,5,7] [6,8] (.c 7 6 66 61 (.c 7 8 61 0 (.l 7 0) .s) .s) ?_;have e:Go.IntKind.i64.wrap (p.n-(n:Int))=p.n-n:=al _ aa;simp[e];refine drw eok mix [0,1,3,4,5,6,7,9,10] [2,8,11] (.c 9 2 128 383 (.c 9 8 4 379 (.c 9 11 377 2 (.l 9 2) .s) .s) .s) ?_
  have ct:cut ([vi p.kind,vi p.n,CD.s (p.signs.map aX)]::l.map Part.row) 1 l.length=l.map Part.row:=by
   simp[cut];exact EC
  have hv:hdV [gl p n]=.agg [.v (.int .i64 p.kind),.v (.int .i64 n),.ro (p.signs.map aX)]:=by simp[hdV,gl,hk2]
  rw[hv]at hK;simp[g,Part.row,k0,k1,k2,k3,k4,j0,j3,ct];intro b8;refine⟨aa,λH=>⟨_,Qh (kx:=kx) (b:=b) (T:=231) (cells:=[.sl 20608 H 3 0 (1+l.length)]) (j:=0) (k:=20608) (sz:=3) (off:=0) (len:=1+l.length) (H:=H) (rows:=(cf p n).row::l.map Part.row) (own:=false) ?_ rfl ?_ aJ,?_⟩⟩
  ·simp[k0]
  ·simp[j4,Part.row,cf,hk2]
  ·refine hK _ ?_ (λq q1 q2=>?_)
   ·simp[cut,Dw]
   ·repeat (first|exact rfl|refine(dw aa).trans ?_)
theorem Qq{w0:World}{bF bG:Nat->Prop}{bl:Bool}{st:ASt}{dst:Option Nat}{K:ASt->Prop}{kx b:Nat}{p:Part}{l:List Part}(hk:kx<14000)(hp:aS p)(hl:l.length<=2^20)
 (g:st.h.get kx=.vars b 231 [.ro ((p::l).map Part.row)])
 (hK:∀h',AH.get h' kx=.vars b 231 [.ro ((cf p (psz p)::l).map Part.row)]->(∀q,q≠kx->q<14000->AH.get h' q=st.h.get q)->cX ⟨st.n,st.kb,st.t,h'⟩ dst (hdV [p]) K) :
 ae ⟨Tryz.prog,tt,w0,⟨bF,bG,bl,λ_=>True⟩⟩ 252 [.p kx b 0] st dst K:=by
 refine inl au Tryz.func252 14000 (λw1 F=>?_);have k0:¬kx=14032:=aa;have j0:¬14032=kx:=aa;simp[g,Part.row,k0];intro b2;refine ae.pure (oQ p hp) lF ?_;simp;refine Jn (n:=psz p) aa hp (aw _) hl (by simp[k0,g]) (λh' g1 g2=>?_);have e:=g2 14032 j0 aa;simp at e;simp[hdV,e];rw[fN hp];refine hK _ (by simp[g1,k0]) (λq q1 q2=>?_);have hq:¬q=14032:=aa;simp[hq,g2 q q1 aa]
structure RS(kx ky bx by_:Nat)(h0 h:AH)(X Y:List Part):Prop where
 ne:kx≠ky
 lx:kx<14000-16
 ly:ky<14000-16
 gx:AH.get h kx=.vars bx 231 [.ro (X.map Part.row)]
 gy:AH.get h ky=.vars by_ 231 [.ro (Y.map Part.row)]
 o:∀q,q≠kx->q≠ky->q<14000->AH.get h q=AH.get h0 q
theorem RS.swap{kx ky bx by_:Nat}{h0 h:AH}{X Y:List Part}(R:RS kx ky bx by_ h0 h X Y):RS ky kx by_ bx h0 h Y X:=⟨R.ne.symm,R.ly,R.lx,R.gy,R.gx,λq h1 h2=>R.o q h2 h1⟩
section
variable {w0:World}{bF bG:Nat->Prop}{bl:Bool}{st:ASt}{dst:Option Nat}{K:ASt->Prop}{kx ky bx by_:Nat}{h0:AH}{X Y:List Part}
theorem RS.next(R:RS kx ky bx by_ h0 st.h X Y)(hs:∀p∈X,aS p)(hK:∀h',RS kx ky bx by_ h0 h' (nxt X) Y->cX ⟨st.n,st.kb,st.t,h'⟩ dst (hdV (nxt X)) K) :
 ae ⟨Tryz.prog,tt,w0,⟨bF,bG,bl,λ_=>True⟩⟩ 251 [.p kx bx 0] st dst K:=by
 have:=R.lx;have:=R.ly;refine YP (l:=X) (kb:=20000) aa hs R.gx (λh1 g1 o1=>hK h1 ⟨R.ne,R.lx,R.ly,g1,by rw[o1 ky R.ne.symm aa];exact R.gy,λq q1 q2 q3=>by rw[o1 q q1 aa];exact R.o q q1 q2 q3⟩)
theorem RS.take{p:Part}{l:List Part}{n:Nat}(R:RS kx ky bx by_ h0 st.h (p::l) Y)(hp:aS p)(hn:n<=psz p)(hl:l.length<=2^20)(hK:∀h',RS kx ky bx by_ h0 h' (cf p n::l) Y->cX ⟨st.n,st.kb,st.t,h'⟩ dst (hdV [gl p n]) K) :
 ae ⟨Tryz.prog,tt,w0,⟨bF,bG,bl,λ_=>True⟩⟩ 254 [.p kx bx 0,.v (.int .i64 n)] st dst K:=by
 have:=R.lx;have:=R.ly;refine Jn aa hp hn hl R.gx (λh1 g1 o1=>hK h1 ⟨R.ne,R.lx,R.ly,g1,by rw[o1 ky R.ne.symm aa];exact R.gy,λq q1 q2 q3=>by rw[o1 q q1 aa];exact R.o q q1 q2 q3⟩)
theorem RS.whole{p:Part}{l:List Part}(R:RS kx ky bx by_ h0 st.h (p::l) Y)(hp:aS p)(hl:l.length<=2^20)(hK:∀h',RS kx ky bx by_ h0 h' (cf p (psz p)::l) Y->cX ⟨st.n,st.kb,st.t,h'⟩ dst (hdV [p]) K) :
 ae ⟨Tryz.prog,tt,w0,⟨bF,bG,bl,λ_=>True⟩⟩ 252 [.p kx bx 0] st dst K:=by
 have:=R.lx;have:=R.ly;refine Qq aa hp hl R.gx (λh1 g1 o1=>hK h1 ⟨R.ne,R.lx,R.ly,g1,by rw[o1 ky R.ne.symm aa];exact R.gy,λq q1 q2 q3=>by rw[o1 q q1 aa];exact R.o q q1 q2 q3⟩)
end
theorem xV:hdV []=.agg [.v (.int .i64 0),.v (.int .i64 0),.nil]:=rfl
theorem eG{p:Part}{l:List Part}:hdV (p::l)=.agg [.v (.int .i64 p.kind),.v (.int .i64 p.n),.ro (p.signs.map aX)]:=rfl
open Go.AM
set_option maxRecDepth 20000
set_option maxHeartbeats 1600000
theorem l7{a b:List Part}(h:¬(cg a/\cg b/\fH a=bO b)):cQ a b=([],false):=by unfold cQ;rw[aj h]
theorem Bb{a b:List Part}(h1:cg a)(h2:cg b)(h3:fH a=bO b):(cg (normal (cmp a b))->cQ a b=(normal (cmp a b),true))/\(¬cg (normal (cmp a b))->cQ a b=([],false)):=by
 unfold cQ;rw[ai ⟨h1,h2,h3⟩];exact LG
theorem yI(a b:List Part)(ha:nL aY a<=2^40)(hb:nL aY b<=2^40):aH Tryz.prog 174 [.c (.s (a.map Part.row)),.c (.s (b.map Part.row))] (.tup [.c (.s ((cQ a b).1.map Part.row)) 3,.c (.v (.bool (cQ a b).2)) 1]):=by
 refine pci au Tryz.func174 (λw0 base=>?_);simp;refine ae.pure (eR a ha) ab ?_;by_cases c1:cg a
 rotate_left
 ·have e:=l7 (a:=a) (b:=b) (λh=>c1 h.1)
  exact EN
 simp[c1];refine ae.pure (eR b hb) ab ?_;by_cases c2:cg b
 rotate_left
 ·have e:=l7 (a:=a) (b:=b) (λh=>c2 h.2.1)
  exact EM
 simp[c2];refine ae.pure (uO a ha) ab ?_;simp;refine ae.pure (iS b hb) ab ?_;by_cases c3:fH a=bO b
 rotate_left
 ·have e:=l7 (a:=a) (b:=b) (λh=>c3 h.2.2)
  simp[c3,e]
 have hf:=Bb c1 c2 c3;simp[c3];intro bx by_;have t1:=vK c1;have t2:=vK c2
 refine aF eok (λx:List Part×List Part×List Part×Hd=>CInv x.1 x.2.1/\x.2.2.1++cmp x.1 x.2.1=cmp a b/\(∀p∈x.2.2.1,aS p)/\x.2.2.1.length+(tsz x.1+tsz x.2.1)<=800/\x.1.length<=1000/\x.2.1.length<=1000)
  (λx=>⟨98,0,[(6,.p 464 bx 0),(7,.p 512 by_ 0),(8,.sl 5000 x.2.2.2 3 0 x.2.2.1.length)],
  [(464,.vars bx 231 [.ro (x.1.map Part.row)]),(512,.vars by_ 231 [.ro (x.2.1.map Part.row)]),(5000,.rows x.2.2.2 3 (x.2.2.1.map Part.row) false)]⟩) (λx=>tsz x.1+tsz x.2.1) (a,b,[],none)
  ⟨Fl c1 c2 c3,ab,ab,aJ,by have:=c1.1.2;simp only;omega,by have:=c2.1.2;simp only;omega⟩ ab (λx hx=>Ent.refl ?_)
 obtain⟨X,Y,L,H⟩:=x;obtain⟨hi,hcmp,hL,hlen,hlx,hly⟩:=hx;simp only at hi hcmp hL hlen hlx hly⊢;have xl:=Fa X;have yl:=Fa Y;obtain⟨h0,hh0⟩:∃h0:AH,[(464,.vars bx 231 [.ro (X.map Part.row)]),(512,.vars by_ 231 [.ro (Y.map Part.row)]),(5000,.rows H 3 (L.map Part.row) false)]=h0:=⟨_,rfl⟩;have R:RS 464 512 bx by_ h0 h0 X Y:=⟨ag,ag,ag,iy,iy,λ_ _ _ _=>rfl⟩;have g5:AH.get h0 5000=.rows H 3 (L.map Part.row) false:=iy;rw[hh0]
 clear hh0
 simp;refine R.next hi.px (λh1 R=>?_);have okx:∀p∈nxt X,aS p:=λp hp=>hi.px p (mW hp)
 have oky:∀p∈nxt Y,aS p:=λp hp=>hi.py p (mW hp)
 have hxt:=AB X;have hyf:=mq Y;have hbal:=hi.b
 cases ex:nxt X with
 | nil =>
   rw[ex]at R;simp[xV];refine R.swap.next hi.py (λh2 R=>?_);have R:=R.swap
   cases ey:nxt Y with
   | nil =>
     have hc:cmp X Y=[]:=HD (by simp[jG,ex,ey]);simp[xV];rw[hc,bg]at hcmp;have e5:=R.o 5000 ag ag ag;refine ae.pure (AC L hL aa) (by simp[e5,g5]) ?_;simp;intro H2;rw[hcmp]at hL hlen⊢;refine ae.pure (eR (normal (cmp a b)) (by have:=oO hL;omega)) ab ?_;by_cases c4:cg (normal (cmp a b))
     ·have e:=hf.1 c4
      simp[c4,e]
     ·exact Un
   | cons q y' =>
     rw[ey]at R;have hq:=(fZ hi.py ey).1;have hqb:=hq.bounds;have q0:¬q.kind=0:=aa;simp[eG,q0];refine R.next ab (λh3 R=>?_);simp only[nxt]at R;simp[nxt,xV];refine R.swap.next El (λh4 R=>?_);have R:=R.swap;rw[<-ey,eK,ey]at R;rw[<-ey,eK,ey];by_cases q2:q.kind=2
     ·simp[eG,q2]
      refine R.swap.whole hq xn (λh5 R=>?_);have R:=R.swap;have e5:=R.o 5000 ag ag ag;have hc:jG X Y=some ([gl q (psz q)],[],cf q (psz q)::y'):=by simp[jG,ex,ey,q2]
      rw[fN hq]at hc;have hn:=kQ hi hc;have hcm:=tO hi hc;simp[eG,e5,g5];intro b1;refine⟨aa,λH2=>Ent.refl ⟨[],cf q (psz q)::y',L++[q],⟨hn.inv,zI,?_,?_,?_,?_⟩,hn.dec,H2,?_⟩⟩
      ·exact LO
      ·have:=hn.dec
       simp at this⊢;omega
      ·simp
      ·simp[ey]at yl⊢;omega
      ·simp[R.gx,R.gy,Part.row,q2]
     ·exact TS
 | cons p x' =>
   rw[ex]at R;have hp:=(fZ hi.px ex).1;have hpb:=hp.bounds;have p0:¬p.kind=0:=aa;simp[eG,p0];refine R.next Ej (λh3 R=>?_);rw[<-ex,eK,ex]at R;rw[<-ex,eK,ex];by_cases p3:p.kind=3
   ·simp[eG,p3]
    refine R.whole hp Ei (λh5 R=>?_);have e5:=R.o 5000 ag ag ag;have hc:jG X Y=some ([gl p (psz p)],cf p (psz p)::x',Y):=by simp[jG,ex,p3]
    rw[fN hp]at hc;have hn:=kQ hi hc;have hcm:=tO hi hc;simp[eG,e5,g5];intro b1;refine⟨aa,λH2=>Ent.refl ⟨cf p (psz p)::x',Y,L++[p],⟨hn.inv,zI,?_,?_,?_,?_⟩,hn.dec,H2,?_⟩⟩
    ·exact LO
    ·have:=hn.dec
     simp at this⊢;omega
    ·simp[ex]at xl⊢;omega
    ·exact hly
    ·simp[R.gx,R.gy,Part.row,p3]
   ·simp[eG,p3]
    refine R.swap.next hi.py (λh4 R=>?_);have R:=R.swap
    cases ey:nxt Y with
    | nil =>
      exact TT
    | cons q y' =>
      rw[ey]at R;have hq:=(fZ hi.py ey).1;have hqb:=hq.bounds;by_cases q2:q.kind=2
      ·simp[eG,q2]
       refine R.swap.whole hq xn (λh5 R=>?_);have R:=R.swap;have e5:=R.o 5000 ag ag ag;have hc:jG X Y=some ([gl q (psz q)],p::x',cf q (psz q)::y'):=by simp[jG,ex,ey,p3,q2]
       rw[fN hq]at hc;have hn:=kQ hi hc;have hcm:=tO hi hc;simp[eG,e5,g5];intro b1;refine⟨aa,λH2=>Ent.refl ⟨p::x',cf q (psz q)::y',L++[q],⟨hn.inv,zI,?_,?_,?_,?_⟩,hn.dec,H2,?_⟩⟩
       ·exact LO
       ·have:=hn.dec
        simp at this⊢;omega
       ·simp[ex]at xl⊢;omega
       ·simp[ey]at yl⊢;omega
       ·simp[R.gx,R.gy,Part.row,q2]
      ·simp[eG,q2]
       refine R.next Ej (λh5 R=>?_);rw[<-ex,eK,ex]at R;rw[<-ex,eK,ex];simp[eG];refine ae.pure (oQ p hp) lF ?_;simp;refine R.swap.next El (λh6 R=>?_);have R:=R.swap;rw[<-ey,eK,ey]at R;rw[<-ey,eK,ey];simp[eG];refine ae.pure (oQ q hq) lF ?_;simp;rw[Ib];obtain⟨n,hn⟩:∃n,min (psz p) (psz q)=n:=⟨_,rfl⟩;rw[hn];simp;refine R.take hp (n:=n) aa Ei (λh7 R=>?_);rw[eG];obtain⟨pc,hpc⟩:∃pc,gl p n=pc:=⟨_,rfl⟩;have pk:pc.kind=p.kind:=by rw[<-hpc];simp
       rw[hpc];simp;refine R.swap.take hq (n:=n) aa xn (λh8 R=>?_);have R:=R.swap;rw[eG];obtain⟨qc,hqc⟩:∃qc,gl q n=qc:=⟨_,rfl⟩;have qk:qc.kind=q.kind:=by rw[<-hqc];simp
       rw[hqc];have e5:=R.o 5000 ag ag ag;have hc:jG X Y=some (if q.kind=1 then [pc]else if p.kind=1 then [qc]else [],cf p n::x',cf q n::y'):=by simp[jG,ex,ey,p3,q2,hn,hpc,hqc]
       have hnx:=kQ hi hc;have hcm:=tO hi hc;have hok:=hnx.ok;have hdec:=hnx.dec;have hlx2:(cf p n::x').length<=1000:=Eh;have hly2:(cf q n::y').length<=1000:=Eg;simp only at hcm hok hdec;simp;intro b1 b2;by_cases q1:q.kind=1
       ·simp only[q1,dF]at hcm hok
        simp[qk,q1,pk,e5,g5];intro b3;refine⟨aa,λH2=>Ent.refl ⟨cf p n::x',cf q n::y',L++[pc],⟨hnx.inv,zI,?_,?_,hlx2,hly2⟩,hdec,H2,?_⟩⟩
        ·exact To
        ·simp;omega
        ·simp[R.gx,R.gy,Part.row,pk]
       ·by_cases p1:p.kind=1
        ·simp only[q1,p1,dF,dO]at hcm hok
         simp[qk,q1,pk,p1,e5,g5];intro b3;refine⟨aa,λH2=>Ent.refl ⟨cf p n::x',cf q n::y',L++[qc],⟨hnx.inv,zI,?_,?_,hlx2,hly2⟩,hdec,H2,?_⟩⟩
         ·exact To
         ·simp;omega
         ·simp[R.gx,R.gy,Part.row,qk]
        ·simp only[q1,p1,dO,gb]at hcm hok
         simp[qk,q1,pk,p1];refine Ent.refl ⟨cf p n::x',cf q n::y',L,⟨hnx.inv,by rw[<-hcmp,hcm],hL,aa,hlx2,hly2⟩,hdec,H,?_⟩;simp[R.gx,R.gy,e5,g5]
theorem J4(p:Part)(h:aS p):aH Tryz.prog 318 [.agg p.row] (.one (.c (vi (psz p)) 1)):=by
 refine pci au Tryz.func318 (λw0 base=>?_);have hp:=jY h;have hb:=h.bounds;rw[hp.1];simp[Part.row];by_cases hk:p.kind=2
 ·have:=hb.2.2.2.2.1 hk
  simp[hk,this]
 ·have:=hb.2.2.2.2.2 hk
  simp[hk,this]
structure Cu(a:List Part)(i d:Nat)(X:List Part):Prop where
 ok:∀p∈a,aS p
 le:i<=a.length
 v:∀h:i<a.length,d<=psz a[i]
 z:i=a.length->d=0
 c:cur a i d=X
def hdK:List Part->Int
 | []=>0
 |p::_=>p.kind
structure CR(kx ky bx by_:Nat)(h0 h:AH)(a b:List Part)(i d j e:Nat)(X Y:List Part):Prop where
 ne:kx≠ky
 lx:kx<14000-16
 ly:ky<14000-16
 gx:AH.get h kx=.vars bx 247 [.ro (a.map Part.row),.v (.int .i64 i),.v (.int .i64 d)]
 gy:AH.get h ky=.vars by_ 247 [.ro (b.map Part.row),.v (.int .i64 j),.v (.int .i64 e)]
 o:∀q,q≠kx->q≠ky->q<14000->AH.get h q=AH.get h0 q
 cx:Cu a i d X
 cy:Cu b j e Y
theorem CR.swap{kx ky bx by_:Nat}{h0 h:AH}{a b:List Part}{i d j e:Nat}{X Y:List Part}(R:CR kx ky bx by_ h0 h a b i d j e X Y):CR ky kx by_ bx h0 h b a j e i d Y X:=⟨R.ne.symm,R.ly,R.lx,R.gy,R.gx,λq h1 h2=>R.o q h2 h1,R.cy,R.cx⟩
theorem Cu.bnd{a:List Part}{i d:Nat}{X:List Part}(h:Cu a i d X):d<=200:=by
 by_cases hlt:i<a.length
 ·have:=h.v hlt
  have:=(jY (h.ok _ (ak hlt))).2;omega
 ·have:=h.z (by have:=h.le;omega)
  omega
theorem Zb{w0:World}{bF bG:Nat->Prop}{bl:Bool}{st:ASt}{dst:Option Nat}{K:ASt->Prop}{kx b i d:Nat}{a X:List Part}(_hk:kx<14000)(hl:a.length<=2^20)(cx:Cu a i d X)
 (g:st.h.get kx=.vars b 247 [.ro (a.map Part.row),.v (.int .i64 i),.v (.int .i64 d)])
 (hK:∀h' i' d',Cu a i' d' (nxt X)->AH.get h' kx=.vars b 247 [.ro (a.map Part.row),.v (.int .i64 i'),.v (.int .i64 d')]->(∀q,q≠kx->q<20000->AH.get h' q=st.h.get q)->cX ⟨st.n,st.kb,st.t,h'⟩ dst (.v (.int .i64 (hdK (nxt X)))) K) :
 ae ⟨Tryz.prog,tt,w0,⟨bF,bG,bl,λ_=>True⟩⟩ 276 [.p kx b 0] st dst K:=by
 refine inl au Tryz.func276 20000 (λw1 F=>?_);simp;refine Bw eok (λx:Nat×Nat=>Cu a x.1 x.2 (cur a x.1 x.2)/\nxt (cur a x.1 x.2)=nxt X) (λx=>⟨62,20000,[(0,.p kx b 0),(2,.v (.int .i64 0))],(kx,.vars b 247 [.ro (a.map Part.row),.v (.int .i64 x.1),.v (.int .i64 x.2)])::st.h⟩) (λx=>a.length-x.1) (i,d) ⟨⟨cx.ok,cx.le,cx.v,cx.z,rfl⟩,by rw[cx.c]⟩ (by simp[g]) (λx hx=>?_);obtain⟨i,d⟩:=x;obtain⟨hc,hn⟩:=hx;have hcl:=hc.le;have hb:=hc.bnd;simp only at hc hn hcl⊢;simp;by_cases hlt:i<a.length
 ·have hp:=hc.ok _ (ak hlt)
  have hd:=hc.v hlt;have hps:=jY hp;refine cF.quiet eok mix ah ?_;simp[hlt];refine⟨_,_,J4 a[i] hp,lF,?_⟩;by_cases he:d=psz a[i]
  ·have e1:Go.IntKind.i64.wrap ((i:Int)+1)=((i+1:Nat):Int):=bL aa
   simp[he,e1];refine⟨i+1,0,⟨⟨hc.ok,aa,λ_=>aa,λ_=>rfl,rfl⟩,?_⟩,aa,aa,rfl⟩;rw[<-hn,he,acB hc.ok hlt]
  ·have he2:¬(d:Int)=psz a[i]:=by omega
   have hne:¬i=a.length:=aa;simp[he2];refine cF.quiet eok mix ah ?_;have hne2:¬(i:Int)=a.length:=aa;simp[hne2];refine cF.quiet eok mix ah ?_;simp[hlt,Part.row];have hs:=acA hc.ok hlt (show d<psz a[i]from aa);rw[hs]at hn;have hk2:hdK (nxt X)=a[i].kind:=by rw[<-hn,Hx hlt];simp[hdK]
   rw[hk2]at hK;refine hK _ i d ⟨hc.ok,hc.le,hc.v,hc.z,hn⟩ ab (λq q1 q2=>by simp[q1])
 ·have hi:i=a.length:=by omega
  have hd:=hc.z hi;refine cF.quiet eok mix ah ?_;simp[hlt];refine cF.quiet eok mix ah ?_;simp[hi];have hn2:nxt X=[]:=by rw[<-hn,Nl aa];rfl
  rw[hn2]at hK;refine hK _ i d ⟨hc.ok,hc.le,hc.v,hc.z,Nl aa⟩ (by simp[hi]) (λq q1 q2=>by simp[q1])
theorem Cu.head{a:List Part}{i d:Nat}{p:Part}{l:List Part}(h:Cu a i d (p::l)):∃hi:i<a.length,p=cf a[i] d/\l=a.drop (i+1)/\psz p=psz a[i]-d/\d<=psz a[i]/\p.kind=a[i].kind/\aS p:=by
 have hi:i<a.length:=by
  have:=h.le;rcases Dv i a.length with h1|h1
  ·exact h1
  ·have:=h.c
   rw[Nl h1]at this
   cases this
 have hc:=h.c;rw[Hx hi]at hc
 cases hc
 have hp:=h.ok _ (ak hi);exact⟨hi,rfl,rfl,kf hp (h.v hi),h.v hi,ab,OA hp (h.v hi)⟩
theorem Cu.add{a:List Part}{i d n:Nat}{p:Part}{l:List Part}(h:Cu a i d (p::l))(hn:n<=psz p):Cu a i (d+n) (cf p n::l):=by
 obtain⟨hi,h1,h2,h3,h4,-,-⟩:=h.head;exact⟨h.ok,h.le,λ_=>aa,λhe=>aa,(acC hi h.c).symm⟩
theorem Y1{w0:World}{bF bG:Nat->Prop}{bl:Bool}{st:ASt}{dst:Option Nat}{K:ASt->Prop}{kx b i d:Nat}{a l:List Part}{p:Part}(cx:Cu a i d (p::l))
 (g:st.h.get kx=.vars b 247 [.ro (a.map Part.row),.v (.int .i64 i),.v (.int .i64 d)])
 (hK:cX st dst (.v (.int .i64 (psz p))) K) :
 ae ⟨Tryz.prog,tt,w0,⟨bF,bG,bl,λ_=>True⟩⟩ 277 [.p kx b 0] st dst K:=by
 refine inl au Tryz.func277 20000 (λw1 F=>?_);obtain⟨hi,h1,h2,h3,h4,-,-⟩:=cx.head;have hp:=cx.ok _ (ak hi);have hps:=jY hp;simp;refine cF.quiet eok mix ah ?_;simp[g,hi];refine⟨_,_,J4 a[i] hp,lF,?_⟩;have e:Go.IntKind.i64.wrap ((psz a[i]:Int)-(d:Int))=(psz p:Int):=by rw[al _ aa];omega
 simp[e];exact hK
theorem Nm{w0:World}{bF bG:Nat->Prop}{bl:Bool}{st:ASt}{dst:Option Nat}{K:ASt->Prop}{kx b i d n:Nat}{a l:List Part}{p:Part}(_hk:kx<14000)(cx:Cu a i d (p::l))(hk2:p.kind=2)(hn:n<=psz p)
 (g:st.h.get kx=.vars b 247 [.ro (a.map Part.row),.v (.int .i64 i),.v (.int .i64 d)])
 (hK:∀h',Cu a i (d+n) (cf p n::l)->AH.get h' kx=.vars b 247 [.ro (a.map Part.row),.v (.int .i64 i),.v (.int .i64 ((d+n:Nat):Int))]->(∀q,q≠kx->q<20000->AH.get h' q=st.h.get q)->cX ⟨st.n,st.kb,st.t,h'⟩ dst (.ro ((p.signs.take n).map aX)) K) :
 ae ⟨Tryz.prog,tt,w0,⟨bF,bG,bl,λ_=>True⟩⟩ 280 [.p kx b 0,.v (.int .i64 n)] st dst K:=by
 refine inl au Tryz.func280 20000 (λw1 F=>?_);obtain⟨hi,h1,h2,h3,h4,h5,-⟩:=cx.head;have hp:=cx.ok _ (ak hi);have hps:=jY hp;have hkk:a[i].kind=2:=by rw[<-h5];exact hk2
 have hn0:=hp.bounds.2.2.2.2.1 hkk;have hsz:psz a[i]=a[i].signs.length:=aa;have hs:p.signs=a[i].signs.drop d:=by rw[h1];simp[cf,hkk]
 have e:Go.IntKind.i64.wrap ((d:Int)+(n:Int))=((d+n:Nat):Int):=by rw[al _ aa];omega
 have hle:d+n<=a[i].signs.length:=aa
 have hv:cut (a[i].signs.map aX) d n=(p.signs.take n).map aX:=by
  unfold cut
  split
  ·rename_i hh
   rw[hs,hh.1];simp at hh;simp[hh.2]
  ·rw[hs,fm,zB]
 obtain⟨m,hm⟩:∃m,d+n=m:=⟨_,rfl⟩;have e2:m-d=n:=aa;have hadd:=cx.add hn;rw[hm]at e hle hK hadd;simp;refine cF.quiet eok mix ah ?_;simp[g,hi,Part.row,e,e2,hv];simp only[fm]at hK;refine⟨hle,aa,hK _ hadd ?_ (λq q1 q2=>?_)⟩
 ·simp
 ·simp[q1]
theorem OZ(x y:Nat):aH Tryz.prog 281 [.c (vi x),.c (vi y)] (.one (.c (vi ((min x y:Nat):Int)) 1)):=by
 refine pci au Tryz.func281 (λw0 base=>?_);simp;by_cases h:x<y
 ·have:min x y=x:=by omega
  simp[h,this]
 ·have:min x y=y:=by omega
  simp[h,this]
section
variable {w0:World}{bF bG:Nat->Prop}{bl:Bool}{st:ASt}{dst:Option Nat}{K:ASt->Prop}{kx ky bx by_ i d j e:Nat}{h0:AH}{a b X Y:List Part}
theorem CR.kind(R:CR kx ky bx by_ h0 st.h a b i d j e X Y)(hl:a.length<=2^20)(hK:∀h' i' d',CR kx ky bx by_ h0 h' a b i' d' j e (nxt X) Y->cX ⟨st.n,st.kb,st.t,h'⟩ dst (.v (.int .i64 (hdK (nxt X)))) K) :
 ae ⟨Tryz.prog,tt,w0,⟨bF,bG,bl,λ_=>True⟩⟩ 276 [.p kx bx 0] st dst K:=by
 have:=R.lx;have:=R.ly;refine Zb aa hl R.cx R.gx (λh1 i1 d1 c1 g1 o1=>hK h1 i1 d1 ⟨R.ne,R.lx,R.ly,g1,by rw[o1 ky R.ne.symm aa];exact R.gy,λq q1 q2 q3=>by rw[o1 q q1 aa];exact R.o q q1 q2 q3,c1,R.cy⟩)
theorem CR.left{p:Part}{l:List Part}(R:CR kx ky bx by_ h0 st.h a b i d j e (p::l) Y)(hK:cX st dst (.v (.int .i64 (psz p))) K) :
 ae ⟨Tryz.prog,tt,w0,⟨bF,bG,bl,λ_=>True⟩⟩ 277 [.p kx bx 0] st dst K:=Y1 R.cx R.gx hK
theorem CR.take{p:Part}{l:List Part}{n:Nat}(R:CR kx ky bx by_ h0 st.h a b i d j e (p::l) Y)(hk2:p.kind=2)(hn:n<=psz p)(hK:∀h',CR kx ky bx by_ h0 h' a b i (d+n) j e (cf p n::l) Y->cX ⟨st.n,st.kb,st.t,h'⟩ dst (.ro ((p.signs.take n).map aX)) K) :
 ae ⟨Tryz.prog,tt,w0,⟨bF,bG,bl,λ_=>True⟩⟩ 280 [.p kx bx 0,.v (.int .i64 n)] st dst K:=by
 have:=R.lx;have:=R.ly;refine Nm aa R.cx hk2 hn R.gx (λh1 c1 g1 o1=>hK h1 ⟨R.ne,R.lx,R.ly,g1,by rw[o1 ky R.ne.symm aa];exact R.gy,λq q1 q2 q3=>by rw[o1 q q1 aa];exact R.o q q1 q2 q3,c1,R.cy⟩)
theorem CR.rebase(R:CR kx ky bx by_ h0 st.h a b i d j e X Y){h':AH}(hx:AH.get h' kx=AH.get st.h kx)(hy:AH.get h' ky=AH.get st.h ky):CR kx ky bx by_ h' h' a b i d j e X Y:=
 ⟨R.ne,R.lx,R.ly,hx.trans R.gx,hy.trans R.gy,λ_ _ _ _=>rfl,R.cx,R.cy⟩
theorem CR.done{p:Part}{l:List Part}{n:Nat}(R:CR kx ky bx by_ h0 st.h a b i d j e (p::l) Y)(hn:n<=psz p):CR kx ky bx by_ ((kx,.vars bx 247 [.ro (a.map Part.row),.v (.int .i64 i),.v (.int .i64 ((d+n:Nat):Int))])::st.h) ((kx,.vars bx 247 [.ro (a.map Part.row),.v (.int .i64 i),.v (.int .i64 ((d+n:Nat):Int))])::st.h) a b i (d+n) j e (cf p n::l) Y:=
 ⟨R.ne,R.lx,R.ly,ab,by rw[cW,aj R.ne.symm];exact R.gy,λ_ _ _ _=>rfl,R.cx.add hn,R.cy⟩
end
open Go.AM
set_option maxRecDepth 20000
theorem vr{w0:World}{bF bG:Nat->Prop}{bl:Bool}{st:ASt}{dst:Option Nat}{K:ASt->Prop}{L:List Part}{P:List Int}{D:Int}{b:Nat}{Hl Hp:Hd}(hL:L.length<=2^20)(_hP:P.length<=2^40)
 (g160:st.h.get 576=.vars b 250 [.sl 5000 Hl 3 0 L.length,.sl 5001 Hp 1 0 P.length,.v (.int .i64 D)])
 (g5000:st.h.get 5000=.rows Hl 3 (L.map Part.row) true) (g5001:st.h.get 5001=.rows Hp 1 (P.map aX) true)
 (hK:∀Hl' h',AH.get h' 576=.vars b 250 [.sl 5000 Hl' 3 0 (bH L P D).length,.nil,.v (.int .i64 0)]->AH.get h' 5000=.rows Hl' 3 ((bH L P D).map Part.row) true ->
  (∀q,q<15000->q≠576->q≠5000->q≠5001->AH.get h' q=st.h.get q)->cX ⟨st.n,st.kb,st.t,h'⟩ dst (.tup []) K):ae ⟨Tryz.prog,tt,w0,⟨bF,bG,bl,λ_=>True⟩⟩ 319 [.p 576 b 0] st dst K:=by
 refine inl au Tryz.func319 20000 (λw1 F=>?_);simp[g160];by_cases hp:P=[]
 ·have hp0:¬0<P.length:=by simp[hp]
  simp[hp0,g160];by_cases hd:0<D
  ·simp[hd]
   refine drw eok mix [0,1,2,3,4,5,6,7,8,9,12,13] [10,11,14] (.c 12 10 4 4091 (.c 12 11 128 3963 (.c 12 14 3961 2 (.l 12 2) .s) .s) .s) ?_;simp[g160,g5000];intro b1;refine⟨aa,λH=>hK H _ ?_ ?_ ?_⟩
   ·simp[sH hp hd]
   ·simp[sH hp hd,Part.row]
   ·intro q q0 q1 q2 q3
    repeat (first|exact rfl|refine(dw aa).trans ?_)
  ·simp[hd,g160]
   refine hK Hl _ ?_ ?_ ?_
   ·simp[sG hp hd]
   ·simp[sG hp hd,g5000]
   ·intro q q0 q1 q2 q3
    repeat (first|exact rfl|refine(dw aa).trans ?_)
 ·have hp0:0<P.length:=ca.2 hp
  simp[hp0];refine drw eok mix [0,1,2,3,4,5,6,7,8,9,12,13] [10,11,14] (.c 12 10 4 4091 (.c 12 11 128 3963 (.c 12 14 3961 2 (.l 12 2) .s) .s) .s) ?_;simp[g160,g5000,g5001];intro b1;refine⟨aa,λH=>?_⟩;by_cases hd:0<D
  ·simp[hd]
   refine drw eok mix [0,1,2,3,4,5,6,7,8,9,12,13] [10,11,14] (.c 12 10 4 4091 (.c 12 11 128 3963 (.c 12 14 3961 2 (.l 12 2) .s) .s) .s) ?_;simp;intro b2;refine⟨aa,λH2=>hK H2 _ ?_ ?_ ?_⟩
   ·simp[sJ hp hd]
   ·simp[sJ hp hd,Part.row]
   ·intro q q0 q1 q2 q3
    repeat (first|exact rfl|refine(dw aa).trans ?_)
  ·simp[hd]
   refine hK H _ ?_ ?_ ?_
   ·simp[sI hp hd]
   ·simp[sI hp hd,Part.row]
   ·intro q q0 q1 q2 q3
    repeat (first|exact rfl|refine(dw aa).trans ?_)
theorem FZ{w0:World}{bF bG:Nat->Prop}{bl:Bool}{st:ASt}{dst:Option Nat}{K:ASt->Prop}{L:List Part}{P:List Int}{D n:Int}{b:Nat}{Hl Hp:Hd}(hL:L.length<=2^19)(hP:P.length<=2^40)(hn0:0<n)(hn:n<=200)(hF:∀q∈bH L P D,0<=q.n/\q.n<=2^40)
 (g160:st.h.get 576=.vars b 250 [.sl 5000 Hl 3 0 L.length,.sl 5001 Hp 1 0 P.length,.v (.int .i64 D)])
 (g5000:st.h.get 5000=.rows Hl 3 (L.map Part.row) true) (g5001:st.h.get 5001=.rows Hp 1 (P.map aX) true)
 (hK:∀Hl' h',AH.get h' 576=.vars b 250 [.sl 5000 Hl' 3 0 (eE (bH L P D) n).length,.nil,.v (.int .i64 0)]->AH.get h' 5000=.rows Hl' 3 ((eE (bH L P D) n).map Part.row) true ->
  (∀q,q<15000->q≠576->q≠5000->q≠5001->AH.get h' q=st.h.get q)->cX ⟨st.n,st.kb,st.t,h'⟩ dst (.tup []) K):ae ⟨Tryz.prog,tt,w0,⟨bF,bG,bl,λ_=>True⟩⟩ 282 [.p 576 b 0,.v (.int .i64 n)] st dst K:=by
 refine inl au Tryz.func282 30000 (λw1 F=>?_);have n0:¬n=0:=aa;simp[n0];refine vr (L:=L) (P:=P) (D:=D) (Hl:=Hl) (Hp:=Hp) aa hP (by simp[g160]) (by simp[g5000]) (by simp[g5001]) (λHl' h' k160 k5000 k80=>?_);have f1:=kB L P D;generalize bH L P D=F at f1 hF k160 k5000 hK;by_cases hF0:0<F.length
 ·obtain⟨m,hm⟩:∃m,F.length=m+1:=⟨F.length-1,aa⟩
  have hmlt:m<F.length:=aa;have hmm:(m:Int)<m+1:=aa;have em:Go.IntKind.i64.wrap (m:Int)=m:=jk aa
  have hk:eE F n=if F[m].kind=1 then F.set m ⟨1,F[m].n+n,F[m].signs⟩else F++[⟨1,n,[]⟩]:=by
   exact zR
  have hq:=hF _ (ak hmlt);have em2:Go.IntKind.i64.wrap (F[m].n+n)=F[m].n+n:=al _ aa;simp[k160,k5000,hm,em,hmm,Part.row];by_cases ck:F[m].kind=1
  ·rw[ai ck]at hk
   simp[ck];refine drw eok mix [0,1,2,3,4,5,6,7,8,9,10,11,12,13,14,15,16,17,18] [19] (.c 19 19 524285 2 (.l 19 2) .s) ?_;simp[k160,k5000,hm,em,hmm,Part.row,ck,em2];have hmod:=lX (F:=F) (m:=m) hmlt (g:=λrow=>jU row 1 [CD.v (Value.int IntKind.i64 (F[m].n+n))]) (p:=⟨1,F[m].n+n,F[m].signs⟩) xp;refine hK Hl' _ ?_ ?_ ?_
   ·simp[k160,hk,hm]
   ·simp[hk,hmod]
   ·intro q q0 q1 q2 q3
    repeat (first|exact k80 q q0 q1 q2 q3|exact rfl|refine(dw aa).trans ?_)
  ·rw[aj ck]at hk
   simp[ck,k160,k5000,hm];intro b1;refine⟨aa,λH=>hK H _ ?_ ?_ ?_⟩
   ·simp[hk,hm]
   ·simp[hk,Part.row]
   ·intro q q0 q1 q2 q3
    repeat (first|exact k80 q q0 q1 q2 q3|exact rfl|refine(dw aa).trans ?_)
 ·have hF1:F=[]:=aL aa
  subst hF1;have hk:eE [] n=[⟨1,n,[]⟩]:=xo;simp[k160,k5000];intro b1 H;refine hK H _ ?_ ?_ ?_
  ·simp[hk]
  ·simp[hk,Part.row]
  ·intro q q0 q1 q2 q3
   repeat (first|exact k80 q q0 q1 q2 q3|exact rfl|refine(dw aa).trans ?_)
theorem yz{w0:World}{bF bG:Nat->Prop}{bl:Bool}{st:ASt}{dst:Option Nat}{K:ASt->Prop}{L:List Part}{P l:List Int}{D:Int}{b:Nat}{Hl Hp:Hd}(hP:P.length<=2^40)(hl:l.length<=2^40)
 (g160:st.h.get 576=.vars b 250 [.sl 5000 Hl 3 0 L.length,.sl 5001 Hp 1 0 P.length,.v (.int .i64 D)]) (g5001:st.h.get 5001=.rows Hp 1 (P.map aX) true)
 (hK:∀Hp' h',AH.get h' 576=.vars b 250 [.sl 5000 Hl 3 0 L.length,.sl 5001 Hp' 1 0 (P++l).length,.v (.int .i64 D)]->AH.get h' 5001=.rows Hp' 1 ((P++l).map aX) true->AH.get h' 5000=st.h.get 5000 ->
  (∀q,q<15000->q≠576->q≠5000->q≠5001->AH.get h' q=st.h.get q)->cX ⟨st.n,st.kb,st.t,h'⟩ dst (.tup []) K):ae ⟨Tryz.prog,tt,w0,⟨bF,bG,bl,λ_=>True⟩⟩ 279 [.p 576 b 0,.ro (l.map aX)] st dst K:=by
 refine inl au Tryz.func279 30000 (λw1 F=>?_);simp[g160,g5001];refine⟨aa,λH=>hK H _ ?_ ?_ ?_ ?_⟩
 ·simp
 ·simp
 ·simp
 ·intro q q0 q1 q2 q3
  repeat (first|exact rfl|refine(dw aa).trans ?_)
theorem vT{w0:World}{bF bG:Nat->Prop}{bl:Bool}{st:ASt}{dst:Option Nat}{K:ASt->Prop}{n D:Int}{b:Nat}{x y:AV}(h0:0<=D/\D<=2^40)(h1:0<=n/\n<=2^40)
 (g160:st.h.get 576=.vars b 250 [x,y,.v (.int .i64 D)])
 (hK:∀h',AH.get h' 576=.vars b 250 [x,y,.v (.int .i64 (D+n))]->(∀q,q≠576->AH.get h' q=st.h.get q)->cX ⟨st.n,st.kb,st.t,h'⟩ dst (.tup []) K):ae ⟨Tryz.prog,tt,w0,⟨bF,bG,bl,λ_=>True⟩⟩ 278 [.p 576 b 0,.v (.int .i64 n)] st dst K:=by
 refine inl au Tryz.func278 30000 (λw1 F=>?_);have e:Go.IntKind.i64.wrap (D+n)=D+n:=al _ aa;simp[g160,e];refine hK _ ab (λq hq=>by simp[hq])
set_option maxHeartbeats 1600000
theorem gv(L:List Part)(p:Part):cq (L++[p])=fC (cq L) p:=by simp[cq,List.foldl_append]
theorem BT{L:List Part}(h:∀p∈L,aS p):NbOk L.length (cq L):=by
 have:=rj h L.length (aw _)
 rwa[dH]at this
theorem yB(a b:List Part)(ha:nL aY a<=2^40)(hb:nL aY b<=2^40):aH Tryz.prog 218 [.c (.s (a.map Part.row)),.c (.s (b.map Part.row))] (.tup [.c (.s ((cQ a b).1.map Part.row)) 3,.c (.v (.bool (cQ a b).2)) 1]):=by
 refine pci au Tryz.func218 (λw0 base=>?_);simp;refine ae.pure (eQ a ha) ab ?_;by_cases c1:cg a
 rotate_left
 ·have e:=l7 (a:=a) (b:=b) (λh=>c1 h.1)
  exact EN
 simp[c1];refine ae.pure (eQ b hb) ab ?_;by_cases c2:cg b
 rotate_left
 ·have e:=l7 (a:=a) (b:=b) (λh=>c2 h.2.1)
  exact EM
 simp[c2];refine ae.pure (ra a ha) ab ?_;simp;refine ae.pure (ic b hb) ab ?_;by_cases c3:fH a=bO b
 rotate_left
 ·have e:=l7 (a:=a) (b:=b) (λh=>c3 h.2.2)
  simp[c3,e]
 have hf:=Bb c1 c2 c3;simp[c3];intro bx by_ bz;have t1:=vK c1;have t2:=vK c2;have la:=c1.1.2;have lb:=c2.1.2;have z0:∀o:List Part,cur o 0 0=o:=λo=>by rw[Hw,eb]
 refine aF eok (λx:Nat×Nat×Nat×Nat×List Part×Hd×Hd=>Cu a x.1 x.2.1 (cur a x.1 x.2.1)/\Cu b x.2.2.1 x.2.2.2.1 (cur b x.2.2.1 x.2.2.2.1)/\CInv (cur a x.1 x.2.1) (cur b x.2.2.1 x.2.2.2.1)/\x.2.2.2.2.1++cmp (cur a x.1 x.2.1) (cur b x.2.2.1 x.2.2.2.1)=cmp a b/\(∀p∈x.2.2.2.2.1,aS p)/\x.2.2.2.2.1.length+(tsz (cur a x.1 x.2.1)+tsz (cur b x.2.2.1 x.2.2.2.1))<=800)
  (λx=>⟨144,0,[(6,.p 496 bx 0),(7,.p 544 by_ 0),(8,.p 576 bz 0)],
  [(496, .vars bx 247 [.ro (a.map Part.row), .v (.int .i64 x.1), .v (.int .i64 x.2.1)]),(544, .vars by_ 247 [.ro (b.map Part.row), .v (.int .i64 x.2.2.1), .v (.int .i64 x.2.2.2.1)]),
   (576,.vars bz 250 [.sl 5000 x.2.2.2.2.2.1 3 0 (cq x.2.2.2.2.1).1.length,.sl 5001 x.2.2.2.2.2.2 1 0 (cq x.2.2.2.2.1).2.1.length,.v (.int .i64 (cq x.2.2.2.2.1).2.2)]),
   (5000,.rows x.2.2.2.2.2.1 3 ((cq x.2.2.2.2.1).1.map Part.row) true),(5001,.rows x.2.2.2.2.2.2 1 ((cq x.2.2.2.2.1).2.1.map aX) true)]⟩) (λx=>tsz (cur a x.1 x.2.1)+tsz (cur b x.2.2.1 x.2.2.2.1)) (0,0,0,0,[],none,none)
  ⟨⟨c1.1.1,fe _,λ_=>fe _,λ_=>rfl,rfl⟩,⟨c2.1.1,fe _,λ_=>fe _,λ_=>rfl,rfl⟩,by simp only[z0];exact Fl c1 c2 c3,by simp[z0],ab,by simp[z0];omega⟩ (by simp[cq]) (λx hx=>Ent.refl ?_)
 obtain⟨i,d,j,e,L,H,G⟩:=x;obtain⟨cx,cy,hi,hcmp,hL,hlen⟩:=hx;simp only at cx cy hi hcmp hL hlen⊢;have hB:=BT hL;obtain⟨B,hBe⟩:∃B,cq L=B:=⟨_,rfl⟩;obtain⟨BL,BP,BD⟩:=B;rw[hBe]at hB;obtain⟨k1,k2,k3,k4,k5⟩:=hB;simp only[hBe];simp only at k1 k2 k3 k4 k5;obtain⟨X,hX⟩:∃X,cur a i d=X:=⟨_,rfl⟩;obtain⟨Y,hY⟩:∃Y,cur b j e=Y:=⟨_,rfl⟩;rw[hX]at cx hi hcmp hlen;rw[hY]at cy hi hcmp hlen
 obtain⟨h0,hh0⟩:∃h0:AH,[(496,.vars bx 247 [.ro (a.map Part.row),.v (.int .i64 i),.v (.int .i64 d)]),(544,.vars by_ 247 [.ro (b.map Part.row),.v (.int .i64 j),.v (.int .i64 e)]),
  (576,.vars bz 250 [.sl 5000 H 3 0 BL.length,.sl 5001 G 1 0 BP.length,.v (.int .i64 BD)]),
  (5000,.rows H 3 (BL.map Part.row) true),(5001,.rows G 1 (BP.map aX) true)]=h0:=⟨_,rfl⟩
 have R:CR 496 544 bx by_ h0 h0 a b i d j e X Y:=⟨ag,ag,ag,iy,iy,λ_ _ _ _=>rfl,cx,cy⟩;have g5:AH.get h0 5000=.rows H 3 (BL.map Part.row) true:=iy;have g6:AH.get h0 5001=.rows G 1 (BP.map aX) true:=iy;have g7:AH.get h0 576=.vars bz 250 [.sl 5000 H 3 0 BL.length,.sl 5001 G 1 0 BP.length,.v (.int .i64 BD)]:=iy;rw[hh0]
 clear hh0
 simp
 have fin:∀{i' d' j' e':Nat}{r:List Part×List Part×List Part},Cu a i' d' r.2.1->Cu b j' e' r.2.2->jG X Y=some r ->
  (Cu a i' d' (cur a i' d')/\Cu b j' e' (cur b j' e')/\CInv (cur a i' d') (cur b j' e')/\(L++r.1)++cmp (cur a i' d') (cur b j' e')=cmp a b/\(∀p∈L++r.1,aS p)/\(L++r.1).length+(tsz (cur a i' d')+tsz (cur b j' e'))<=800)/\tsz (cur a i' d')+tsz (cur b j' e')<tsz (cur a i d)+tsz (cur b j e):=by
  intro i' d' j' e' r hu hv hs;have hn:=kQ hi hs;have hcm:=tO hi hs;have hdec:=hn.dec;have hln:=hn.len;rw[hu.c,hv.c,hX,hY];refine⟨⟨hu,hv,hn.inv,by rw[bf,<-hcm,hcmp],?_,?_⟩,hdec⟩
  ·intro p hp
   rcases aG.1 hp with hp|hp
   ·exact hL p hp
   ·exact hn.ok p hp
  ·rw[cP];omega
 refine R.kind aa (λh1 i1 d1 R=>?_);have okx:∀p∈nxt X,aS p:=λp hp=>hi.px p (mW hp)
 have oky:∀p∈nxt Y,aS p:=λp hp=>hi.py p (mW hp)
 have hxt:=AB X;have hyf:=mq Y;have hbal:=hi.b
 cases ex:nxt X with
 | nil =>
   rw[ex]at R;simp[hdK];refine R.swap.kind aa (λh2 j1 e1 R=>?_);have R:=R.swap
   cases ey:nxt Y with
   | nil =>
     have hc:cmp X Y=[]:=HD (by simp[jG,ex,ey]);simp[hdK];rw[hc,bg]at hcmp;have e5:=R.o 5000 ag ag ag;have e6:=R.o 5001 ag ag ag;have e7:=R.o 576 ag ag ag;refine inl au Tryz.func283 30000 (λw1 F=>?_);simp;refine vr (L:=BL) (P:=BP) (D:=BD) (Hl:=H) (Hp:=G) aa aa (by simp[e7,g7]) (by simp[e5,g5]) (by simp[e6,g6]) (λHl' h' k576 k5000 ko=>?_);have hnorm:bH BL BP BD=normal (cmp a b):=by rw[<-hcmp];unfold normal;rw[hBe]
     rw[hnorm]at k576 k5000;simp[k576];refine ae.pure (eQ (normal (cmp a b)) (by rw[<-hcmp];have:=oO hL;omega)) (by simp[k5000]) ?_;by_cases c4:cg (normal (cmp a b))
     ·have e:=hf.1 c4
      simp[c4,e,k5000]
     ·exact Un
   | cons q y' =>
     rw[ey]at R;have hq:=(fZ hi.py ey).1;have hqb:=hq.bounds;have q0:¬q.kind=0:=aa;simp[hdK,q0];refine R.kind aa (λh3 i2 d2 R=>?_);simp only[nxt]at R;simp[nxt,hdK];refine R.swap.kind aa (λh4 j2 e2 R=>?_);have R:=R.swap;rw[<-ey,eK,ey]at R;rw[<-ey,eK,ey];by_cases q2:q.kind=2
     ·simp[hdK,q2]
      refine R.swap.left ?_;simp;refine R.swap.take q2 (aw _) (λh5 R=>?_);have R:=R.swap;have e5:=R.o 5000 ag ag ag;have e6:=R.o 5001 ag ag ag;have e7:=R.o 576 ag ag ag;simp;have hc:jG X Y=some ([gl q (psz q)],[],cf q (psz q)::y'):=by simp[jG,ex,ey,q2]
      exact WZ
     ·exact TS
 | cons p x' =>
   rw[ex]at R;have hp:=(fZ hi.px ex).1;have hpb:=hp.bounds;have hps:=jY hp;have p0:¬p.kind=0:=aa;simp[hdK,p0];refine R.kind aa (λh3 i2 d2 R=>?_);rw[<-ex,eK,ex]at R;rw[<-ex,eK,ex];by_cases p3:p.kind=3
   ·simp[hdK,p3]
    refine R.left ?_;simp;have e5:=R.o 5000 ag ag ag;have e6:=R.o 5001 ag ag ag;have e7:=R.o 576 ag ag ag;refine vT (n:=(psz p:Int)) (D:=BD) aa aa (e7.trans g7) (λh' k576 ko=>?_);have R:=R.rebase (h':=h') (ko 496 ag) (ko 544 ag);have hc:jG X Y=some ([gl p (psz p)],cf p (psz p)::x',Y):=by simp[jG,ex,p3]
    have hd:=R.done (st:=⟨144,0,[],h'⟩) (aw (psz p));obtain⟨m,hm⟩:∃m,d2+psz p=m:=⟨_,rfl⟩;have ew:Go.IntKind.i64.wrap ((d2:Int)+(psz p:Int))=(m:Int):=Lq;rw[hm]at hd;have hf:=fin hd.cx hd.cy hc;rw[fN hp]at hf;have h5:=ko 5000 ag;have h6:=ko 5001 ag;simp[R.gx,ew];refine Ent.refl ⟨_,_,_,_,_,hf.1,hf.2,H,G,?_⟩;rw[gv,hBe];have hpn:(psz p:Int)=p.n:=by have:=hpb.2.2.2.2.2 aa;rw[hps.1,this];simp
    simp[fC,p3,R.gy,k576,h5,h6,e5,g5,e6,g6,hpn]
   ·simp[hdK,p3]
    refine R.swap.kind aa (λh4 j2 e2 R=>?_);have R:=R.swap
    cases ey:nxt Y with
    | nil =>
      exact TT
    | cons q y' =>
      rw[ey]at R;have hq:=(fZ hi.py ey).1;have hqb:=hq.bounds;have hqs:=jY hq;by_cases q2:q.kind=2
      ·simp[hdK,q2]
       refine R.swap.left ?_;simp;refine R.swap.take q2 (aw _) (λh5 R=>?_);have R:=R.swap;have e5:=R.o 5000 ag ag ag;have e6:=R.o 5001 ag ag ag;have e7:=R.o 576 ag ag ag;simp;have hc:jG X Y=some ([gl q (psz q)],p::x',cf q (psz q)::y'):=by simp[jG,ex,ey,q2,p3]
       exact WZ
      ·simp[hdK,q2]
       refine R.left ?_;simp;refine R.swap.left ?_;simp;refine ae.pure (OZ (psz p) (psz q)) ab ?_;have pp:=fY ex;have qp:=fY ey;obtain⟨n,hn⟩:∃n,min (psz p) (psz q)=n:=⟨_,rfl⟩;rw[hn];simp;refine R.kind aa (λh5 i3 d3 R=>?_);rw[<-ex,eK,ex]at R;rw[<-ex,eK,ex];simp[hdK];refine R.swap.kind aa (λh6 j3 e3 R=>?_);have R:=R.swap;rw[<-ey,eK,ey]at R;rw[<-ey,eK,ey];simp[hdK];have hc:jG X Y=some (if q.kind=1 then [gl p n]else if p.kind=1 then [gl q n]else [],cf p n::x',cf q n::y'):=by simp[jG,ex,ey,p3,q2,hn]
       obtain⟨mx,hmx⟩:∃m,d3+n=m:=⟨_,rfl⟩;obtain⟨my,hmy⟩:∃m,e3+n=m:=⟨_,rfl⟩;have ewx:Go.IntKind.i64.wrap ((d3:Int)+(n:Int))=(mx:Int):=Lq;have ewy:Go.IntKind.i64.wrap ((e3:Int)+(n:Int))=(my:Int):=Su;have cxx:=R.cx.add (n:=n) aa;have cyy:=R.cy.add (n:=n) aa;rw[hmx]at cxx;rw[hmy]at cyy;have hf:=fin cxx cyy hc;have e5:=R.o 5000 ag ag ag;have e6:=R.o 5001 ag ag ag;have e7:=R.o 576 ag ag ag;have gx:=R.gx;have gy:=R.gy;by_cases p2:p.kind=2
       ·by_cases q1:q.kind=1
        ·simp only[q1,dF]at hf
         simp[p2,q1];refine R.take p2 (n:=n) aa (λh7 R=>?_);rw[hmx]at R;have e5:=R.o 5000 ag ag ag;have e6:=R.o 5001 ag ag ag;have e7:=R.o 576 ag ag ag;simp;rw[<-fm];refine yz (L:=BL) (P:=BP) (D:=BD) (Hl:=H) (Hp:=G) aa aJ (by simp[e7,g7]) (by simp[e6,g6]) (λHp' h' k576 k5001 k5000 ko=>?_);have R:=R.rebase (h':=h') (ko 496 ag ag ag ag) (ko 544 ag ag ag ag);simp[R.gy,ewy];refine Ent.refl ⟨_,_,_,_,_,hf.1,hf.2,H,Hp',?_⟩;rw[gv,hBe];have hpk:(gl p n).signs=p.signs.take n:=by simp[gl,p2]
         simp[fC,p2,hpk,R.gx,k576,k5001,k5000,e5,g5]
        ·have p1:¬p.kind=1:=by omega
         simp only[q1,p1,dO]at hf;simp[p2,q1,gx,gy,ewx,ewy];refine Ent.refl ⟨_,_,_,_,_,hf.1,hf.2,H,G,?_⟩;simp[hBe,e5,e6,e7,g5,g6,g7]
       ·have p1:p.kind=1:=by omega
        by_cases q1:q.kind=1
        ·simp only[q1,dF]at hf
         simp[p2,q1];have f2:=lh (P:=BP) k3 k4 k5;have hpk:(gl p n).n=n:=by simp[gl,p2]
         refine FZ (n:=(n:Int)) (L:=BL) (P:=BP) (D:=BD) (Hl:=H) (Hp:=G) aa aa aa aa (λq hq=>Em) (by simp[e7,g7]) (by simp[e5,g5]) (by simp[e6,g6]) (λHl' h' k576 k5000 ko=>?_);have R:=R.rebase (h':=h') (ko 496 ag ag ag ag) (ko 544 ag ag ag ag);simp[R.gx,R.gy,ewx,ewy];refine Ent.kill 5001 (Ent.refl ⟨_,_,_,_,_,hf.1,hf.2,Hl',none,?_⟩);rw[gv,hBe];have n0:0<n:=aa;simp[fC,p1,hpk,n0,k576,k5000]
        ·simp only[q1,p1,dF,dO]at hf
         simp[p2,q1];have q3:q.kind=3:=aa;have hpk:(gl q n).n=n:=by simp[gl,q2]
         refine vT (n:=(n:Int)) (D:=BD) aa aa (e7.trans g7) (λh' k576 ko=>?_);have R:=R.rebase (h':=h') (ko 496 ag) (ko 544 ag);have h5:=ko 5000 ag;have h6:=ko 5001 ag;simp[R.gx,R.gy,ewx,ewy];refine Ent.refl ⟨_,_,_,_,_,hf.1,hf.2,H,G,?_⟩;rw[gv,hBe];simp[fC,q3,hpk,k576,h5,h6,e5,g5,e6,g6]
def ar(d:Doc):Int:=Go.IntKind.i64.wrap (d.fr+d.list.length)
def cm(r:Rep):Prop:=(1<=r.client/\r.client<=8)/\(0<=r.seq/\r.seq<=999999999)/\(0<=r.rev/\r.rev<=999999999)/\eD r.text/\cu r.sent/\cu r.buf/\bO r.sent=r.text.length/\bO r.buf=fH r.sent/\(if r.has then r.seq≠0 else idle r.sent)
theorem gI(r:Rep)(hl:dX r<=2^40):aH Tryz.prog 93 [.agg r.row] (.one (.c (vb (cm r)) 1)):=by
 refine pci au Tryz.func93 (λw0 base=>?_);unfold dX at hl;simp[Rep.row];intros;refine ae.pure (cr r.client 1 8) ab ?_;by_cases c1:1<=r.client/\r.client<=8
 rotate_left
 ·exact VN
 simp[c1];refine ae.pure (cr r.seq 0 999999999) ab ?_;by_cases c2:0<=r.seq/\r.seq<=999999999
 rotate_left
 ·exact VQ
 simp[c2];refine ae.pure (cr r.rev 0 999999999) ab ?_;by_cases c3:0<=r.rev/\r.rev<=999999999
 rotate_left
 ·exact VR
 simp[c3];refine ae.pure (mu r.text aa) ab ?_;by_cases c4:eD r.text
 rotate_left
 ·exact TJ
 simp[c4];refine ae.pure (uR r.sent aa) ab ?_;by_cases c5:cu r.sent
 rotate_left
 ·exact TQ
 simp[c5];refine ae.pure (uR r.buf aa) ab ?_;by_cases c6:cu r.buf
 rotate_left
 ·exact TV
 simp[c6];refine cF.quiet eok mix ah ?_;simp;refine⟨_,_,iS r.sent aa,ab,?_⟩;by_cases c7:bO r.sent=r.text.length
 rotate_left
 ·exact T4
 simp[c7];refine⟨_,_,iS r.buf aa,ab,?_⟩;simp;refine⟨_,_,uO r.sent aa,ab,?_⟩;by_cases c8:bO r.buf=fH r.sent
 rotate_left
 ·exact Ub
 simp[c8]
 cases ch:r.has
 ·have e:dc (cm r)=dc (idle r.sent):=tM ⟨λh=>Ef,λh=>⟨c1,c2,c3,c4,c5,c6,c7,c8,Ee⟩⟩
  simp;refine ae.pure (zj r.sent aa) ab ?_;simp;exact e
 ·have e:dc (cm r)=dc (r.seq≠0):=tM ⟨λh=>Ef,λh=>⟨c1,c2,c3,c4,c5,c6,c7,c8,Ee⟩⟩
  simp[e];by_cases h0:r.seq=0<;>simp[h0]
theorem gH(r:Rep)(hl:dX r<=2^40):aH Tryz.prog 202 [.agg r.row] (.one (.c (vb (cm r)) 1)):=by
 refine pci au Tryz.func202 (λw0 base=>?_);unfold dX at hl;simp[Rep.row];intros;refine ae.pure (dT r.client 1 8) ab ?_;by_cases c1:1<=r.client/\r.client<=8
 rotate_left
 ·exact VN
 simp[c1];refine ae.pure (dT r.seq 0 999999999) ab ?_;by_cases c2:0<=r.seq/\r.seq<=999999999
 rotate_left
 ·exact VQ
 simp[c2];refine ae.pure (dT r.rev 0 999999999) ab ?_;by_cases c3:0<=r.rev/\r.rev<=999999999
 rotate_left
 ·exact VR
 simp[c3];refine ae.pure (mj r.text aa) ab ?_;by_cases c4:eD r.text
 rotate_left
 ·exact TJ
 simp[c4];refine ae.pure (qx r.sent aa) ab ?_;by_cases c5:cu r.sent
 rotate_left
 ·exact TQ
 simp[c5];refine ae.pure (qx r.buf aa) ab ?_;by_cases c6:cu r.buf
 rotate_left
 ·exact TV
 simp[c6];refine cF.quiet eok mix ah ?_;simp;refine⟨_,_,ic r.sent aa,ab,?_⟩;by_cases c7:bO r.sent=r.text.length
 rotate_left
 ·exact T4
 simp[c7];refine⟨_,_,ic r.buf aa,ab,?_⟩;simp;refine⟨_,_,ra r.sent aa,ab,?_⟩;by_cases c8:bO r.buf=fH r.sent
 rotate_left
 ·exact Ub
 simp[c8]
 cases ch:r.has
 ·have e:dc (cm r)=dc (idle r.sent):=tM ⟨λh=>Ef,λh=>⟨c1,c2,c3,c4,c5,c6,c7,c8,Ee⟩⟩
  simp;refine ae.pure (y7 r.sent aa) ab ?_;simp;exact e
 ·have e:dc (cm r)=dc (r.seq≠0):=tM ⟨λh=>Ef,λh=>⟨c1,c2,c3,c4,c5,c6,c7,c8,Ee⟩⟩
  simp[e];by_cases h0:r.seq=0
  ·simp[h0]
  ·have:0<r.seq:=by omega
   simp[h0,this]
def iM(r:Rep):Prop:=cm r/\r.has=false/\idle r.buf
theorem GU(r:Rep)(hl:dX r<=2^40):aH Tryz.prog 192 [.agg r.row] (.one (.c (vb (iM r)) 1)):=by
 refine pci au Tryz.func192 (λw0 base=>?_);simp[Rep.row];intros;refine ae.pure (gI r hl) ep ?_;unfold dX at hl;by_cases c1:cm r
 rotate_left
 ·simp[c1,iM]
 simp[c1]
 cases ch:r.has
 ·simp
  refine ae.pure (zj r.buf aa) ab ?_;simp[iM,c1,ch]
 ·simp[ch,iM]
theorem FW(r:Rep)(hl:dX r<=2^40):aH Tryz.prog 223 [.agg r.row] (.one (.c (vb (iM r)) 1)):=by
 refine pci au Tryz.func223 (λw0 base=>?_);simp[Rep.row];intros;refine ae.pure (gH r hl) ep ?_;unfold dX at hl;by_cases c1:cm r
 rotate_left
 ·simp[c1,iM]
 simp[c1]
 cases ch:r.has
 ·simp
  refine ae.pure (y7 r.buf aa) ab ?_;simp[iM,c1,ch]
 ·simp[ch,iM]
theorem nq(l:List Int)(hl:l.length<=2^40):aH Tryz.prog 91 [.c (.s (l.map aX))] (.one (.c (.s (l.map aX)) 1)):=by
 refine pci au Tryz.func91 (λw0 base=>?_);simp;omega
def Rep.zero:Rep:=⟨0,0,0,[],false,[],[]⟩
noncomputable def fo(c s v:Int)(t:List Int):Rep:=⟨c,s,v,t,false,dv t.length,dv t.length⟩
open Classical in
noncomputable def mD(r:Rep):Rep×Bool:=if cm r then(r,true)else(Rep.zero,false)
noncomputable def eZ(c s v:Int)(t:List Int):Rep×Bool:=mD (fo c s v t)
theorem qQ(n:Int):nL aY (dv n)<=1:=by
 unfold dv
 split<;>simp[nL,fX,aY]
theorem BR(c s v:Int)(t:List Int):dX (fo c s v t)<=t.length+2:=by
 have h:=qQ t.length;unfold dX fo;exact gM
theorem Rep.zero_n:dX Rep.zero=0:=rfl
theorem AT(a0 a1 a2:Int)(a3:List Int)(n3:a3.length<=2^20) :
 aH Tryz.prog 54 [.c (vi a0),.c (vi a1),.c (vi a2),.c (.s (a3.map aX))] (.tup [.agg (eZ a0 a1 a2 a3).1.res,.c (.v (.bool (eZ a0 a1 a2 a3).2)) 1]):=by
 refine pci au Tryz.func54 (λw0 base=>?_);simp;intro b8;refine ae.pure (nq a3 aa) ab ?_;simp;intro H1;refine ae.pure (mP a3.length) ab ?_;simp;intro H2;refine ae.pure (mP a3.length) ab ?_;simp;intro H3;refine inl au Tryz.func150 20000 (λw1 F=>?_);simp;intros;have hn:=BR a0 a1 a2 a3;refine ae.pure (gI (fo a0 a1 a2 a3) aa) (by simp[Rep.row,fo]) ?_;by_cases h:cm (fo a0 a1 a2 a3)
 ·have e:eZ a0 a1 a2 a3=(fo a0 a1 a2 a3,true):=by unfold eZ mD;rw[ai h]
  simp[h,e,Rep.res];simp[fo]
 ·have e:eZ a0 a1 a2 a3=(Rep.zero,false):=by unfold eZ mD;rw[aj h]
  have e2:dc (cm (fo a0 a1 a2 a3))=false:=En;simp[e2,e,Rep.res,Rep.zero]
theorem Aa(a0 a1 a2:Int)(a3:List Int)(n3:a3.length<=2^20) :
 aH Tryz.prog 102 [.c (vi a0),.c (vi a1),.c (vi a2),.c (.s (a3.map aX))] (.tup [.agg (eZ a0 a1 a2 a3).1.res,.c (.v (.bool (eZ a0 a1 a2 a3).2)) 1]):=by
 refine pci au Tryz.func102 (λw0 base=>?_);simp;intro b8 b9;refine⟨aa,λH1=>?_⟩;refine ae.pure (mN a3.length) ab ?_;simp;intro H2;refine ae.pure (mN a3.length) ab ?_;simp;intro H3;refine inl au Tryz.func196 20000 (λw1 F=>?_);simp;intros;have hn:=BR a0 a1 a2 a3;refine ae.pure (gH (fo a0 a1 a2 a3) aa) (by simp[Rep.row,fo]) ?_;by_cases h:cm (fo a0 a1 a2 a3)
 ·have e:eZ a0 a1 a2 a3=(fo a0 a1 a2 a3,true):=by unfold eZ mD;rw[ai h]
  simp[h,e,Rep.res];simp[fo]
 ·have e:eZ a0 a1 a2 a3=(Rep.zero,false):=by unfold eZ mD;rw[aj h]
  have e2:dc (cm (fo a0 a1 a2 a3))=false:=En;simp[e2,e,Rep.res,Rep.zero]
theorem MX(a0:Int)(_:B4 a0)(a1:Int)(_:B4 a1)(a2:Int)(_:B4 a2)(a3:List Int)(_:a3.length<=9223372036854775807/\∀n∈a3,B4 n)(n3:a3.length<=2^20):aH Tryz.prog 54 [.c (vi a0),.c (vi a1),.c (vi a2),.c (.s (a3.map aX))] (.tup [.agg (eZ a0 a1 a2 a3).1.res,.c (.v (.bool (eZ a0 a1 a2 a3).2)) 1]):=AT a0 a1 a2 a3 n3
theorem Mq(a0:Int)(_:B4 a0)(a1:Int)(_:B4 a1)(a2:Int)(_:B4 a2)(a3:List Int)(_:a3.length<=9223372036854775807/\∀n∈a3,B4 n)(n3:a3.length<=2^20):aH Tryz.prog 102 [.c (vi a0),.c (vi a1),.c (vi a2),.c (.s (a3.map aX))] (.tup [.agg (eZ a0 a1 a2 a3).1.res,.c (.v (.bool (eZ a0 a1 a2 a3).2)) 1]):=Aa a0 a1 a2 a3 n3
theorem mg{α β:Type}{f:α->β}{l:List α}{i:Nat}(h:i<l.length):List.take i (l.map f)++[f l[i]]=List.take (i+1) (l.map f):=by
 rw[List.take_add_one];simp[h]
theorem wQ(o:List Part)(hl:nL aY o<=2^30):aH Tryz.prog 237 [.c (.s (o.map Part.row))] (.one (.c (.s (o.map Part.row)) 3)):=by
 refine pci au Tryz.func237 (λw0 base=>?_);have hle:=cT hl;simp;refine bk.intro eok (λx:Nat×Hd=>x.1<=o.length) (λx=>⟨22,0,[(8,.v (.int .i64 x.1)),(7,.v (.int .i64 o.length)),(6,.ro (o.map Part.row)),(3,.sl 304 x.2 3 0 x.1)],[(304,.rows x.2 3 ((o.take x.1).map Part.row) true)]⟩) (λx=>o.length-x.1) (0,none) ab ab (λx hi=>?_);obtain⟨i,H⟩:=x;simp only at hi⊢;by_cases h:i<o.length
 ·have e:Go.IntKind.i64.wrap ((i:Int)+1)=((i+1:Nat):Int):=bL aa
  have hm:min i o.length=i:=aa;have hs:=iN hl h;simp[h,Part.row];intro b5;refine ae.pure (nq o[i].signs (by unfold aY at hs;omega)) ab ?_;simp[hm];exact⟨aa,λH3=>⟨i+1,aa,aa,H3,⟨e,rfl,rfl⟩,rfl,mg (f:=Part.row) h⟩⟩
 ·have:i=o.length:=by omega
  subst this;simp[cut]
theorem qP(o:List Part)(hl:nL aY o<=2^30):aH Tryz.prog 220 [.c (.s (o.map Part.row))] (.one (.c (.s (o.map Part.row)) 3)):=by
 refine pci au Tryz.func220 (λw0 base=>?_);have hle:=cT hl;simp;intro b;refine bk.intro eok (λx:Nat×Hd=>x.1<=o.length) (λx=>⟨27,0,[(9,.v (.int .i64 x.1)),(8,.v (.int .i64 o.length)),(7,.ro (o.map Part.row)),(3,.sl 96 x.2 3 0 x.1)],[(96,.rows x.2 3 ((o.take x.1).map Part.row) true)]⟩) (λx=>o.length-x.1) (0,some (b,0,0)) ab ab (λx hi=>?_);obtain⟨i,H⟩:=x;simp only at hi⊢;by_cases h:i<o.length
 ·have e:Go.IntKind.i64.wrap ((i:Int)+1)=((i+1:Nat):Int):=bL aa
  have hm:min i o.length=i:=aa;have hs:=iN hl h;unfold aY at hs;simp[h,Part.row];intro b5;refine drw eok mix [0,1,2,3,4,6,7] [5,8,9,10,11,12] (.c 7 5 0 127 (.c 7 8 1 126 (.c 7 9 20 106 (.c 7 10 0 106 (.c 7 11 64 42 (.c 7 12 42 0 (.l 7 0) .s) .s) .s) .s) .s) .s) ?_;simp[hm];exact⟨aa,aa,λH3=>⟨i+1,aa,aa,H3,⟨e,rfl,rfl⟩,rfl,mg (f:=Part.row) h⟩⟩
 ·have:i=o.length:=by omega
  subst this;simp[cut]
def Call.zero:Call:=⟨0,⟨#[]⟩,0,0,0,[],[]⟩
def j8(r:Rep):Call:=⟨2,⟨#[]⟩,r.client,r.seq,r.rev,r.sent,[]⟩
theorem FO(r:Rep)(hl:dX r<=2^30):aH Tryz.prog 177 [.agg r.row] (.one (.agg (j8 r).res)):=by
 refine pci au Tryz.func177 (λw0 base=>?_);unfold dX at hl;simp[Rep.row];intros;refine drw eok mix [0,1,2,3,4,5,6,7] [8,9,10] (.c 8 8 1 254 (.c 8 9 84 170 (.c 8 10 170 0 (.l 8 0) .s) .s) .s) ?_;simp;refine ae.pure (wQ r.sent aa) ab ?_;simp[j8,Call.res]
theorem J3(r:Rep)(hl:dX r<=2^30):aH Tryz.prog 221 [.agg r.row] (.one (.agg (j8 r).res)):=by
 refine pci au Tryz.func221 (λw0 base=>?_);unfold dX at hl;simp[Rep.row];intros;refine drw eok mix [0,1,2,3,4,5,6,7] [8,9,10] (.c 8 8 1 254 (.c 8 9 84 170 (.c 8 10 170 0 (.l 8 0) .s) .s) .s) ?_;simp;refine ae.pure (qP r.sent aa) ab ?_;simp[j8,Call.res]
theorem Call.zero_n:kC Call.zero=0:=rfl
def kT(t:List Int)(s:List Int×Int)(p:Part):List Int×Int:=
 if p.kind=1 then(s.1++(t.drop s.2.toNat).take p.n.toNat,s.2+p.n)else if p.kind=2 then(s.1++p.signs,s.2)else(s.1,s.2+p.n)
def jH(o:List Part)(t:List Int):List Int×Int:=o.foldl (kT t) ([],0)
theorem yg{o:List Part}{t:List Int}{i:Nat}(h:i<o.length):jH (o.take (i+1)) t=kT t (jH (o.take i) t) o[i]:=by
 unfold jH;exact uu
def gm(o:List Part)(t:List Int):Prop:=cg o/\eD t/\bO o=t.length
open Classical in
noncomputable def apply(o:List Part)(t:List Int):List Int×Bool:=if gm o t then((jH o t).1,true)else([],false)
theorem pO{o:List Part}{t:List Int}(ho:∀p∈o,aS p):∀(i:Nat),i<=o.length->(jH (o.take i) t).2=dN fK (o.take i)+dN fD (o.take i)/\(jH (o.take i) t).1.length<=200*i
 |0,_=>by simp[jH,dN]
 | i + 1, hi => by
   have hlt:i<o.length:=aa;obtain⟨h1,h2⟩:=pO ho i aa;have hb:=(ho _ (ak hlt)).bounds;rw[yg hlt,gQ hlt,gQ hlt];generalize jH (o.take i) t=s at h1 h2;obtain⟨L,a⟩:=s;simp only at h1 h2;generalize dN fK (o.take i)=x1 at h1⊢;generalize dN fD (o.take i)=x2 at h1⊢;unfold kT fK fD;exact UZ
theorem mh{f:Part->Int}(hf:∀p,aS p->0<=f p):∀{o:List Part}(_:∀p∈o,aS p) (i:Nat),dN f (o.take i)<=dN f o
 | [],_,i=>ab
 | p :: o, ho, 0 => by
   have h1:=hf p (ho p (aN ..));have h2:=mh hf (o:=o) (λq hq=>ho q (aD _ hq)) 0;simp only[adi,dN]at h2⊢;omega
 | p :: o, ho, i + 1 => by
   have h2:=mh hf (o:=o) (λq hq=>ho q (aD _ hq)) i;simp only[jJ,dN];omega
theorem tR{o:List Part}{t:List Int}(h:gm o t){i:Nat}(hi:i<o.length):0<=(jH (o.take i) t).2/\(o[i].kind≠2->(jH (o.take i) t).2+o[i].n<=t.length)/\(jH (o.take i) t).2<=t.length:=by
 have ho:=h.1.1.1;have h1:=(pO (t:=t) ho i aa).1;have hf:bO o=dN fK o+dN fD o:=by unfold bO eI;rw[ai h.1.1]
 have h2:=mh (λp hp=>(Ry hp).1) ho (i+1);have h3:=mh (λp hp=>(RC hp).1) ho (i+1);have h4:=gW (f:=fK) (λp h=>Ry h) (qv ho i);have h5:=gW (f:=fD) (λp h=>RC h) (qv ho i);have h6:=gQ (f:=fK) hi;have h7:=gQ (f:=fD) hi;have h8:=h.2.2;exact WB
theorem nD(o:List Part)(t:List Int)(hl:nL aY o<=2^40)(ht:t.length<=2^40):aH Tryz.prog 191 [.c (.s (o.map Part.row)),.c (.s (t.map aX))] (.tup [.c (.s ((apply o t).1.map aX)) 1,.c (.v (.bool (apply o t).2)) 1]):=by
 refine pci au Tryz.func191 (λw0 base=>?_);simp;have no:¬gm o t->apply o t=([],false):=λh=>by unfold apply;rw[aj h]
 refine ae.pure (eR o hl) ab ?_;by_cases c1:cg o
 rotate_left
 ·exact LN
 simp[c1];refine ae.pure (mu t ht) ab ?_;by_cases c2:eD t
 rotate_left
 ·have e:dc (eD t)=false:=by rw[e8];exact c2
  simp[e,no (λh=>c2 h.2.1)]
 simp[c2];refine ae.pure (iS o hl) ab ?_;by_cases c3:bO o=t.length
 rotate_left
 ·simp[c3,no (λh=>c3 h.2.2)]
 have hf:gm o t:=⟨c1,c2,c3⟩;have e:apply o t=((jH o t).1,true):=by unfold apply;rw[ai hf]
 have ho:=c1.1.1;have hlen:=c1.1.2;simp[c3,e];refine bk.intro eok (λx:Nat×Hd=>x.1<=o.length) (λx=>⟨60,0,[(27,.v (.int .i64 x.1)),(26,.v (.int .i64 o.length)),(25,.ro (o.map Part.row)),(7,.v (.int .i64 (jH (o.take x.1) t).2)),(6,.sl 752 x.2 1 0 (jH (o.take x.1) t).1.length),(1,.ro (t.map aX))],[(752,.rows x.2 1 ((jH (o.take x.1) t).1.map aX) true)]⟩) (λx=>o.length-x.1) (0,none) ab (by simp[jH]) (λx hi=>?_);obtain⟨i,H⟩:=x;simp only at hi⊢;by_cases h:i<o.length
 ·have hin:=tR hf h
  have hat:=pO (t:=t) ho i hi;have hb:=(ho _ (ak h)).bounds;have hs:=yg (t:=t) h;generalize jH (o.take i) t=s at hin hat hs;obtain⟨L,a⟩:=s;simp only at hin hat hs;obtain⟨a',rfl⟩:∃a':Nat,a=a':=⟨a.toNat,aa⟩;obtain⟨n,hn⟩:∃n:Nat,o[i].n=n:=⟨o[i].n.toNat,aa⟩;have e:Go.IntKind.i64.wrap ((i:Int)+1)=((i+1:Nat):Int):=bL aa;have ea:Go.IntKind.i64.wrap ((a':Int)+n)=(a':Int)+n:=al _ aa;rw[hn]at hin;simp[h,Part.row];intro b9;by_cases k1:o[i].kind=1
  ·exact WU
  ·by_cases k3:o[i].kind=3
   ·have hst:kT t (L,(a':Int)) o[i]=(L,(a':Int)+n):=by simp[kT,k3,hn]
    rw[hst]at hs;simp[k3,hn,ea];refine⟨i+1,aa,aa,H,?_⟩;rw[hs];simp[e]
   ·have k2:o[i].kind=2:=by omega
    exact SH
 ·exact EO
theorem J5(o:List Part)(t:List Int)(hl:nL aY o<=2^40)(ht:t.length<=2^40):aH Tryz.prog 291 [.c (.s (o.map Part.row)),.c (.s (t.map aX))] (.one (.c (vb (gm o t)) 1)):=by
 refine pci au Tryz.func291 (λw0 base=>?_);simp;refine ae.pure (eQ o hl) ab ?_;by_cases c1:cg o
 rotate_left
 ·simp[c1,gm]
 simp[c1];refine ae.pure (mj t ht) ab ?_;by_cases c2:eD t
 rotate_left
 ·simp[c2,gm]
 simp[c2];refine ae.pure (ic o hl) ab ?_;simp[gm,c1,c2]
theorem lR(o:List Part)(t:List Int)(hl:nL aY o<=2^40)(ht:t.length<=2^40):aH Tryz.prog 268 [.c (.s (o.map Part.row)),.c (.s (t.map aX))] (.tup [.c (.s ((apply o t).1.map aX)) 1,.c (.v (.bool (apply o t).2)) 1]):=by
 refine pci au Tryz.func268 (λw0 base=>?_);simp;refine ae.pure (J5 o t hl ht) ab ?_;by_cases hf:gm o t
 rotate_left
 ·have e:dc (gm o t)=false:=by rw[e8];exact hf
  have e2:apply o t=([],false):=by unfold apply;rw[aj hf]
  simp[e,e2]
 have e:apply o t=((jH o t).1,true):=by unfold apply;rw[ai hf]
 have ho:=hf.1.1.1;have hlen:=hf.1.1.2;simp[hf,e];intro b;refine bk.intro eok (λx:Nat×Hd=>x.1<=o.length) (λx=>⟨50,0,[(17,.v (.int .i64 x.1)),(16,.v (.int .i64 o.length)),(15,.ro (o.map Part.row)),(7,.v (.int .i64 (jH (o.take x.1) t).2)),(6,.sl 224 x.2 1 0 (jH (o.take x.1) t).1.length),(1,.ro (t.map aX))],[(224,.rows x.2 1 ((jH (o.take x.1) t).1.map aX) true)]⟩) (λx=>o.length-x.1) (0,some (b,0,0)) ab (by simp[jH]) (λx hi=>?_);obtain⟨i,H⟩:=x;simp only at hi⊢;by_cases h:i<o.length
 ·have hin:=tR hf h
  have hat:=pO (t:=t) ho i hi;have hb:=(ho _ (ak h)).bounds;have hs:=yg (t:=t) h;generalize jH (o.take i) t=s at hin hat hs;obtain⟨L,a⟩:=s;simp only at hin hat hs;obtain⟨a',rfl⟩:∃a':Nat,a=a':=⟨a.toNat,aa⟩;obtain⟨n,hn⟩:∃n:Nat,o[i].n=n:=⟨o[i].n.toNat,aa⟩;have e:Go.IntKind.i64.wrap ((i:Int)+1)=((i+1:Nat):Int):=bL aa;have ea:Go.IntKind.i64.wrap ((a':Int)+n)=(a':Int)+n:=al _ aa;rw[hn]at hin;simp[h,Part.row];intro b9;by_cases k1:o[i].kind=1
  ·exact WU
  ·by_cases k2:o[i].kind=2
   ·exact SH
   ·have k3:o[i].kind=3:=by omega
    have hst:kT t (L,(a':Int)) o[i]=(L,(a':Int)+n):=by simp[kT,k3,hn]
    rw[hst]at hs;simp[k1,k2,hn,ea];refine⟨i+1,aa,aa,H,?_⟩;rw[hs];simp[e]
 ·exact EO
theorem mB(o:List Part)(t:List Int):(apply o t).1.length<=2^17:=by
 unfold apply
 split
 ·rename_i h
  have h1:=(pO (t:=t) h.1.1.1 o.length aa).2;rw[dH]at h1;have:=h.1.1.2;exact nU
 ·simp
abbrev iF(o:List Part):List CD:=[.s (o.map Part.row)]
open Classical in
noncomputable def ba:List (List Part)->List Int->Option (List Int)
 | [],t=>some t
 |o::l,t=>if(apply o t).2=true then ba l (apply o t).1 else none
open Classical in
noncomputable def eA(l:List (List Part))(t:List Int):List Int×Bool:=
 if eD t then match ba l t with
  |some u=>(u,true)
  |none=>([],false)
 else([],false)
theorem oj{l:List (List Part)}{i:Nat}{u:List Int}(h:i<l.length):ba (l.drop i) u=if(apply l[i] u).2=true then ba (l.drop (i+1)) (apply l[i] u).1 else none:=by
 rw[bj h,ba]
theorem rl(l:List (List Part))(t:List Int)(hl:l.length<=2^30)(hs:∀o∈l,nL aY o<=2^40)(ht:t.length<=2^40):aH Tryz.prog 94 [.c (.s (l.map iF)),.c (.s (t.map aX))] (.tup [.c (.s ((eA l t).1.map aX)) 1,.c (.v (.bool (eA l t).2)) 1]):=by
 refine pci au Tryz.func94 (λw0 base=>?_);simp;refine ae.pure (mu t ht) ab ?_;by_cases c2:eD t
 rotate_left
 ·have e:dc (eD t)=false:=by rw[e8];exact c2
  have e2:eA l t=([],false):=by unfold eA;rw[aj c2]
  simp[e,e2]
 obtain⟨r,hr⟩:∃r,eA l t=r:=⟨_,rfl⟩;have hr':(match ba l t with|some u=>(u,true)|none=>([],false))=r:=by rw[<-hr];unfold eA;rw[ai c2]
 rw[hr];simp[c2];refine ae.pure (nq t ht) ab ?_;simp;intro H0
 refine bk.intro eok (λx:Nat×Nat×Hd×List Int=>x.1<=l.length/\x.2.2.2.length<=2^40/\(match ba (l.drop x.1) x.2.2.2 with|some u=>(u,true)|none=>([],false))=r)
  (λx=>⟨33,0,[(18,.v (.int .i64 x.1)),(17,.v (.int .i64 l.length)),(16,.ro (l.map iF)),(6,.sl x.2.1 x.2.2.1 1 0 x.2.2.2.length)],[(x.2.1,.rows x.2.2.1 1 (x.2.2.2.map aX) true)]⟩) (λx=>l.length-x.1) (0,240,H0,t) (by simp[ht,hr']) ab (λx hi=>?_)
 obtain⟨i,K,H,u⟩:=x;simp only at hi⊢;obtain⟨hi1,hi2,hi3⟩:=hi;by_cases h:i<l.length
 ·have e:Go.IntKind.i64.wrap ((i:Int)+1)=((i+1:Nat):Int):=bL aa
  rw[oj h]at hi3;have hlen:=mB l[i] u;simp[h];refine ae.pure (nD l[i] u (hs _ (ak h)) hi2) ab ?_;generalize apply l[i] u=q at hi3 hlen;obtain⟨v,ok⟩:=q;simp only at hi3 hlen
  cases ok
  ·simp at hi3
   simp[<-hi3]
  ·simp at hi3
   simp;intro H2;exact⟨i+1,400,H2,v,⟨aa,aa,hi3⟩,aa,⟨e,rfl,rfl,rfl⟩,.inl rfl⟩
 ·have hd:l.drop i=[]:=bK aa
  rw[hd]at hi3;simp[ba]at hi3;simp[h,<-hi3]
end Go.Proofs.YtmccaifipoohfaaGreatDoor
