import Derived.Test.YtdeimojjhhdeaaaGreatDoorPA
import Derived.Test.YtdeimojjhhdeaaaGreatDoorMF
import Derived.Test.YtdeimojjhhdeaaaGreatDoorNA
namespace Go.Proofs.YtdeimojjhhdeaaaGreatDoor
open Go.AM
set_option maxRecDepth 20000
theorem abw(s:List Int){n:Nat}(_h:n<=s.length):cut (s.map aN) 0 n=(s.take n).map aN:=by
 unfold cut
 split
 ·rename_i h2
  rw[aD (by simp at h2;omega)]
 ·simp
theorem abx(s:List Int){n:Nat}:cut (s.map aN) n (s.length-n)=(s.drop n).map aN:=by
 unfold cut
 split
 ·rename_i h2
  rw[h2.1];simp
 ·rw[aD ab,sH]
theorem Il{w0:World}{bF bG:Nat->Prop}{bl:Bool}{st:ASt}{dst:Option Nat}{K:ASt->Prop}{kx b n:Nat}{p:Part}{l:List Part}(hk:kx<15000)(hp:aY p)(hn:n<=psz p)(hl:l.length<=2^20)
 (g:st.h.get kx=.vars b 298 [.ro ((p::l).map Part.row)])
 (hK:∀h',AH.get h' kx=.vars b 298 [.ro ((bX p n::l).map Part.row)]->(∀q,q≠kx->q<15000->AH.get h' q=st.h.get q)->cG ⟨st.n,st.kb,st.t,h'⟩ dst (hdV [fJ p n]) K) :
 ae ⟨Tryz.prog,tt,w0,⟨bF,bG,bl,λ_=>True⟩⟩ 324 [.p kx b 0,.v (.int .i64 n)] st dst K:=by
 refine Ih aq Tryz.func324 ai rfl rfl rfl (aj rfl) 20000 (λw1 F=>?_);have hps:=jD hp;have hb:=hp.bounds;have k0:¬kx=20064:=aa;have k1:¬kx=20080:=aa;have k2:¬kx=20096:=aa;have k3:¬kx=20112:=aa;have k4:¬kx=20608:=aa;have j0:¬20064=kx:=aa;have j1:¬20080=kx:=aa;have j2:¬20096=kx:=aa;have j3:¬20112=kx:=aa;have j4:¬20608=kx:=aa;simp[g,Part.row,k0];intro b4 b5
 refine cg.cut (λx:Nat×Nat=>⟨48,20000,[(0,.p kx b 0),(1,.v (.int .i64 n)),(4,.p 20064 b4 0),(5,.p 20080 b5 0),(6,.p 20096 x.1 0),(7,.p 20112 x.2 0)],
  (20096,.vars x.1 258 [.v (.int .i64 p.kind),.v (.int .i64 p.n),.ro (p.signs.map aN)])::(20112,.vars x.2 258 [.v (.int .i64 p.kind),.v (.int .i64 p.n),.ro (p.signs.map aN)])::(20080,.vars b5 258 [.v (.int .i64 p.kind),.v (.int .i64 p.n),.ro (p.signs.map aN)])::(20064,.vars b4 258 [.v (.int .i64 0),.v (.int .i64 0),.nil])::st.h⟩) ?_ ?_
 ·refine drw eok mix [0,1] [2,3,4,5] (.c 2 2 0 3 (.c 2 3 0 3 (.c 2 4 2 1 (.c 2 5 1 0 (.l 2 0) .s) .s) .s) (.c 2 3 0 3 (.c 2 2 0 3 (.c 2 4 2 1 (.c 2 5 1 0 (.l 2 0) .s) .s) .s) .s)) ?_
  simp;rw[Trc];refine⟨?_,?_⟩<;>simp
 rintro⟨b6,b7⟩
 simp;by_cases hk2:p.kind=2
 ·simp[hk2]
  refine drw eok mix [0,1,2,3,4,5,6,7,8,10] [9,11] (.c 10 9 962 61 (.c 10 11 61 0 (.l 10 0) .s) .s) ?_;have hns:n<=p.signs.length:=by have:=hb.2.2.2.2.1 hk2;omega
  simp[hns];refine drw eok mix [0,1,3,4,5,6,7,9,10] [2,8,11] (.c 9 2 128 383 (.c 9 8 4 379 (.c 9 11 377 2 (.l 9 2) .s) .s) .s) ?_
  have ct:cut ([vi p.kind,vi p.n,CD.s (p.signs.map aN)]::l.map Part.row) 1 l.length=l.map Part.row:=by
   simp[cut];exact zb
  have hv:hdV [fJ p n]=.agg [.v (.int .i64 2),.v (.int .i64 p.n),.ro ((p.signs.map aN).take n)]:=by simp[hdV,fJ,hk2]
  rw[hv]at hK;simp[g,Part.row,k0,k1,k2,k3,k4,j0,j3,ct,abw p.signs hns,abx p.signs];intro b8;refine⟨aa,λH=>⟨_,Ok (kx:=kx) (b:=b) (T:=298) (cells:=[.sl 20608 H 3 0 (1+l.length)]) (j:=0) (k:=20608) (sz:=3) (off:=0) (len:=1+l.length) (H:=H) (rows:=(bX p n).row::l.map Part.row) (own:=false) ?_ rfl ?_ aI,?_⟩⟩
  ·simp[k0]
  ·simp[j4,Part.row,bX,hk2]
  ·refine hK _ ?_ (λq q1 q2=>?_)
   ·simp[cut,Oo]
   ·repeat (first|exact rfl|refine(cV aa).trans ?_)
 ·simp[hk2]
  refine drw eok mix [0,1,2,3,4,5,7] [6,8] (.c 7 6 66 61 (.c 7 8 61 0 (.l 7 0) .s) .s) ?_;have e:Go.IntKind.i64.wrap (p.n-(n:Int))=p.n-n:=ah _ aa;simp[e];refine drw eok mix [0,1,3,4,5,6,7,9,10] [2,8,11] (.c 9 2 128 383 (.c 9 8 4 379 (.c 9 11 377 2 (.l 9 2) .s) .s) .s) ?_
  have ct:cut ([vi p.kind,vi p.n,CD.s (p.signs.map aN)]::l.map Part.row) 1 l.length=l.map Part.row:=by
   simp[cut];exact zb
  have hv:hdV [fJ p n]=.agg [.v (.int .i64 p.kind),.v (.int .i64 n),.ro (p.signs.map aN)]:=by simp[hdV,fJ,hk2]
  rw[hv]at hK;simp[g,Part.row,k0,k1,k2,k3,k4,j0,j3,ct];intro b8;refine⟨aa,λH=>⟨_,Ok (kx:=kx) (b:=b) (T:=298) (cells:=[.sl 20608 H 3 0 (1+l.length)]) (j:=0) (k:=20608) (sz:=3) (off:=0) (len:=1+l.length) (H:=H) (rows:=(bX p n).row::l.map Part.row) (own:=false) ?_ rfl ?_ aI,?_⟩⟩
  ·simp[k0]
  ·simp[j4,Part.row,bX,hk2]
  ·refine hK _ ?_ (λq q1 q2=>?_)
   ·simp[cut,Oo]
   ·repeat (first|exact rfl|refine(cV aa).trans ?_)
theorem Ov{w0:World}{bF bG:Nat->Prop}{bl:Bool}{st:ASt}{dst:Option Nat}{K:ASt->Prop}{kx b:Nat}{p:Part}{l:List Part}(hk:kx<14000)(hp:aY p)(hl:l.length<=2^20)
 (g:st.h.get kx=.vars b 298 [.ro ((p::l).map Part.row)])
 (hK:∀h',AH.get h' kx=.vars b 298 [.ro ((bX p (psz p)::l).map Part.row)]->(∀q,q≠kx->q<14000->AH.get h' q=st.h.get q)->cG ⟨st.n,st.kb,st.t,h'⟩ dst (hdV [p]) K) :
 ae ⟨Tryz.prog,tt,w0,⟨bF,bG,bl,λ_=>True⟩⟩ 322 [.p kx b 0] st dst K:=by
 refine inl aq Tryz.func322 14000 (λw1 F=>?_);have k0:¬kx=14032:=aa;have j0:¬14032=kx:=aa;simp[g,Part.row,k0];intro b2;refine ae.pure (nU p hp) iP ?_;simp;refine Il (n:=psz p) aa hp (aC _) hl (by simp[k0,g]) (λh' g1 g2=>?_);have e:=g2 14032 j0 aa;simp at e;simp[hdV,e];rw[fi hp];refine hK _ (by simp[g1,k0]) (λq q1 q2=>?_);have hq:¬q=14032:=aa;simp[hq,g2 q q1 aa]
structure RS(kx ky bx by_:Nat)(h0 h:AH)(X Y:List Part):Prop where
 ne:kx≠ky
 lx:kx<14000-16
 ly:ky<14000-16
 gx:AH.get h kx=.vars bx 298 [.ro (X.map Part.row)]
 gy:AH.get h ky=.vars by_ 298 [.ro (Y.map Part.row)]
 o:∀q,q≠kx->q≠ky->q<14000->AH.get h q=AH.get h0 q
theorem RS.swap{kx ky bx by_:Nat}{h0 h:AH}{X Y:List Part}(R:RS kx ky bx by_ h0 h X Y):RS ky kx by_ bx h0 h Y X:=⟨R.ne.symm,R.ly,R.lx,R.gy,R.gx,λq h1 h2=>R.o q h2 h1⟩
section
variable {w0:World}{bF bG:Nat->Prop}{bl:Bool}{st:ASt}{dst:Option Nat}{K:ASt->Prop}{kx ky bx by_:Nat}{h0:AH}{X Y:List Part}
theorem RS.next(R:RS kx ky bx by_ h0 st.h X Y)(hs:∀p∈X,aY p)(hK:∀h',RS kx ky bx by_ h0 h' (nxt X) Y->cG ⟨st.n,st.kb,st.t,h'⟩ dst (hdV (nxt X)) K) :
 ae ⟨Tryz.prog,tt,w0,⟨bF,bG,bl,λ_=>True⟩⟩ 321 [.p kx bx 0] st dst K:=by
 have:=R.lx;have:=R.ly;refine W4 (l:=X) (kb:=20000) aa hs R.gx (λh1 g1 o1=>hK h1 ⟨R.ne,R.lx,R.ly,g1,by rw[o1 ky R.ne.symm aa];exact R.gy,λq q1 q2 q3=>by rw[o1 q q1 aa];exact R.o q q1 q2 q3⟩)
theorem RS.take{p:Part}{l:List Part}{n:Nat}(R:RS kx ky bx by_ h0 st.h (p::l) Y)(hp:aY p)(hn:n<=psz p)(hl:l.length<=2^20)(hK:∀h',RS kx ky bx by_ h0 h' (bX p n::l) Y->cG ⟨st.n,st.kb,st.t,h'⟩ dst (hdV [fJ p n]) K) :
 ae ⟨Tryz.prog,tt,w0,⟨bF,bG,bl,λ_=>True⟩⟩ 324 [.p kx bx 0,.v (.int .i64 n)] st dst K:=by
 have:=R.lx;have:=R.ly;refine Il aa hp hn hl R.gx (λh1 g1 o1=>hK h1 ⟨R.ne,R.lx,R.ly,g1,by rw[o1 ky R.ne.symm aa];exact R.gy,λq q1 q2 q3=>by rw[o1 q q1 aa];exact R.o q q1 q2 q3⟩)
theorem RS.whole{p:Part}{l:List Part}(R:RS kx ky bx by_ h0 st.h (p::l) Y)(hp:aY p)(hl:l.length<=2^20)(hK:∀h',RS kx ky bx by_ h0 h' (bX p (psz p)::l) Y->cG ⟨st.n,st.kb,st.t,h'⟩ dst (hdV [p]) K) :
 ae ⟨Tryz.prog,tt,w0,⟨bF,bG,bl,λ_=>True⟩⟩ 322 [.p kx bx 0] st dst K:=by
 have:=R.lx;have:=R.ly;refine Ov aa hp hl R.gx (λh1 g1 o1=>hK h1 ⟨R.ne,R.lx,R.ly,g1,by rw[o1 ky R.ne.symm aa];exact R.gy,λq q1 q2 q3=>by rw[o1 q q1 aa];exact R.o q q1 q2 q3⟩)
end
theorem xa:hdV []=.agg [.v (.int .i64 0),.v (.int .i64 0),.nil]:=rfl
theorem eb{p:Part}{l:List Part}:hdV (p::l)=.agg [.v (.int .i64 p.kind),.v (.int .i64 p.n),.ro (p.signs.map aN)]:=rfl
open Go.AM
set_option maxRecDepth 20000
set_option maxHeartbeats 1600000
theorem mI{a b:List Part}(h:¬(cz a/\cz b/\jt a=bS b)):fh a b=([],false):=by unfold fh;rw[ak h]
theorem Ai{a b:List Part}(h1:cz a)(h2:cz b)(h3:jt a=bS b):(cz (normal (cmp a b))->fh a b=(normal (cmp a b),true))/\(¬cz (normal (cmp a b))->fh a b=([],false)):=by
 unfold fh;rw[al ⟨h1,h2,h3⟩];exact J2
theorem xJ(a b:List Part)(ha:nL aM a<=2^40)(hb:nL aM b<=2^40):ar Tryz.prog 235 [.c (.s (a.map Part.row)),.c (.s (b.map Part.row))] (.tup [.c (.s ((fh a b).1.map Part.row)) 3,.c (.v (.bool (fh a b).2)) 1]):=by
 refine pci aq Tryz.func235 (λw0 base=>?_);simp;refine ae.pure (ep a ha) ab ?_;by_cases c1:cz a
 rotate_left
 ·have e:=mI (a:=a) (b:=b) (λh=>c1 h.1)
  exact DQ
 simp[c1];refine ae.pure (ep b hb) ab ?_;by_cases c2:cz b
 rotate_left
 ·have e:=mI (a:=a) (b:=b) (λh=>c2 h.2.1)
  exact DP
 simp[c2];refine ae.pure (tJ a ha) ab ?_;simp;refine ae.pure (iA b hb) ab ?_;by_cases c3:jt a=bS b
 rotate_left
 ·have e:=mI (a:=a) (b:=b) (λh=>c3 h.2.2)
  simp[c3,e]
 have hf:=Ai c1 c2 c3;simp[c3];intro bx by_;have t1:=uN c1;have t2:=uN c2
 refine aE eok (λx:List Part×List Part×List Part×Hd=>CInv x.1 x.2.1/\x.2.2.1++cmp x.1 x.2.1=cmp a b/\(∀p∈x.2.2.1,aY p)/\x.2.2.1.length+(tsz x.1+tsz x.2.1)<=800/\x.1.length<=1000/\x.2.1.length<=1000)
  (λx=>⟨98,0,[(6,.p 464 bx 0),(7,.p 512 by_ 0),(8,.sl 5000 x.2.2.2 3 0 x.2.2.1.length)],
  [(464,.vars bx 298 [.ro (x.1.map Part.row)]),(512,.vars by_ 298 [.ro (x.2.1.map Part.row)]),(5000,.rows x.2.2.2 3 (x.2.2.1.map Part.row) false)]⟩) (λx=>tsz x.1+tsz x.2.1) (a,b,[],none)
  ⟨VW c1 c2 c3,ab,ab,aI,by have:=c1.1.2;simp only;omega,by have:=c2.1.2;simp only;omega⟩ ab (λx hx=>Ent.refl ?_)
 obtain⟨X,Y,L,H⟩:=x;obtain⟨hi,hcmp,hL,hlen,hlx,hly⟩:=hx;simp only at hi hcmp hL hlen hlx hly⊢;have xl:=D9 X;have yl:=D9 Y;obtain⟨h0,hh0⟩:∃h0:AH,[(464,.vars bx 298 [.ro (X.map Part.row)]),(512,.vars by_ 298 [.ro (Y.map Part.row)]),(5000,.rows H 3 (L.map Part.row) false)]=h0:=⟨_,rfl⟩;have R:RS 464 512 bx by_ h0 h0 X Y:=⟨ag,ag,ag,gS,gS,λ_ _ _ _=>rfl⟩;have g5:AH.get h0 5000=.rows H 3 (L.map Part.row) false:=gS;rw[hh0]
 clear hh0
 simp;refine R.next hi.px (λh1 R=>?_);have okx:∀p∈nxt X,aY p:=λp hp=>hi.px p (mb hp)
 have oky:∀p∈nxt Y,aY p:=λp hp=>hi.py p (mb hp)
 have hxt:=D8 X;have hyf:=mc Y;have hbal:=hi.b
 cases ex:nxt X with
 | nil =>
   rw[ex]at R;simp[xa];refine R.swap.next hi.py (λh2 R=>?_);have R:=R.swap
   cases ey:nxt Y with
   | nil =>
     have hc:cmp X Y=[]:=NV (by simp[jQ,ex,ey]);simp[xa];rw[hc,cu]at hcmp;have e5:=R.o 5000 ag ag ag;refine ae.pure (zH L hL aa) (by simp[e5,g5]) ?_;simp;intro H2;rw[hcmp]at hL hlen⊢;refine ae.pure (ep (normal (cmp a b)) (by have:=nO hL;omega)) ab ?_;by_cases c4:cz (normal (cmp a b))
     ·have e:=hf.1 c4
      simp[c4,e]
     ·exact Sp
   | cons q y' =>
     rw[ey]at R;have hq:=(gC hi.py ey).1;have hqb:=hq.bounds;have q0:¬q.kind=0:=aa;simp[eb,q0];refine R.next ab (λh3 R=>?_);simp only[nxt]at R;simp[nxt,xa];refine R.swap.next Do (λh4 R=>?_);have R:=R.swap;rw[<-ey,ee,ey]at R;rw[<-ey,ee,ey];by_cases q2:q.kind=2
     ·simp[eb,q2]
      refine R.swap.whole hq wm (λh5 R=>?_);have R:=R.swap;have e5:=R.o 5000 ag ag ag;have hc:jQ X Y=some ([fJ q (psz q)],[],bX q (psz q)::y'):=by simp[jQ,ex,ey,q2]
      rw[fi hq]at hc;have hn:=k9 hi hc;have hcm:=vU hi hc;simp[eb,e5,g5];intro b1;refine⟨aa,λH2=>Ent.refl ⟨[],bX q (psz q)::y',L++[q],⟨hn.inv,yZ,?_,?_,?_,?_⟩,hn.dec,H2,?_⟩⟩
      ·exact Ka
      ·have:=hn.dec
       simp at this⊢;omega
      ·simp
      ·simp[ey]at yl⊢;omega
      ·simp[R.gx,R.gy,Part.row,q2]
     ·exact RQ
 | cons p x' =>
   rw[ex]at R;have hp:=(gC hi.px ex).1;have hpb:=hp.bounds;have p0:¬p.kind=0:=aa;simp[eb,p0];refine R.next Dn (λh3 R=>?_);rw[<-ex,ee,ex]at R;rw[<-ex,ee,ex];by_cases p3:p.kind=3
   ·simp[eb,p3]
    refine R.whole hp Dm (λh5 R=>?_);have e5:=R.o 5000 ag ag ag;have hc:jQ X Y=some ([fJ p (psz p)],bX p (psz p)::x',Y):=by simp[jQ,ex,p3]
    rw[fi hp]at hc;have hn:=k9 hi hc;have hcm:=vU hi hc;simp[eb,e5,g5];intro b1;refine⟨aa,λH2=>Ent.refl ⟨bX p (psz p)::x',Y,L++[p],⟨hn.inv,yZ,?_,?_,?_,?_⟩,hn.dec,H2,?_⟩⟩
    ·exact Ka
    ·have:=hn.dec
     simp at this⊢;omega
    ·simp[ex]at xl⊢;omega
    ·exact hly
    ·simp[R.gx,R.gy,Part.row,p3]
   ·simp[eb,p3]
    refine R.swap.next hi.py (λh4 R=>?_);have R:=R.swap
    cases ey:nxt Y with
    | nil =>
      exact RT
    | cons q y' =>
      rw[ey]at R;have hq:=(gC hi.py ey).1;have hqb:=hq.bounds;by_cases q2:q.kind=2
      ·simp[eb,q2]
       refine R.swap.whole hq wm (λh5 R=>?_);have R:=R.swap;have e5:=R.o 5000 ag ag ag;have hc:jQ X Y=some ([fJ q (psz q)],p::x',bX q (psz q)::y'):=by simp[jQ,ex,ey,p3,q2]
       rw[fi hq]at hc;have hn:=k9 hi hc;have hcm:=vU hi hc;simp[eb,e5,g5];intro b1;refine⟨aa,λH2=>Ent.refl ⟨p::x',bX q (psz q)::y',L++[q],⟨hn.inv,yZ,?_,?_,?_,?_⟩,hn.dec,H2,?_⟩⟩
       ·exact Ka
       ·have:=hn.dec
        simp at this⊢;omega
       ·simp[ex]at xl⊢;omega
       ·simp[ey]at yl⊢;omega
       ·simp[R.gx,R.gy,Part.row,q2]
      ·simp[eb,q2]
       refine R.next Dn (λh5 R=>?_);rw[<-ex,ee,ex]at R;rw[<-ex,ee,ex];simp[eb];refine ae.pure (nU p hp) iP ?_;simp;refine R.swap.next Do (λh6 R=>?_);have R:=R.swap;rw[<-ey,ee,ey]at R;rw[<-ey,ee,ey];simp[eb];refine ae.pure (nU q hq) iP ?_;simp;rw[By];obtain⟨n,hn⟩:∃n,min (psz p) (psz q)=n:=⟨_,rfl⟩;rw[hn];simp;refine R.take hp (n:=n) aa Dm (λh7 R=>?_);rw[eb];obtain⟨pc,hpc⟩:∃pc,fJ p n=pc:=⟨_,rfl⟩;have pk:pc.kind=p.kind:=by rw[<-hpc];simp
       rw[hpc];simp;refine R.swap.take hq (n:=n) aa wm (λh8 R=>?_);have R:=R.swap;rw[eb];obtain⟨qc,hqc⟩:∃qc,fJ q n=qc:=⟨_,rfl⟩;have qk:qc.kind=q.kind:=by rw[<-hqc];simp
       rw[hqc];have e5:=R.o 5000 ag ag ag;have hc:jQ X Y=some (if q.kind=1 then [pc]else if p.kind=1 then [qc]else [],bX p n::x',bX q n::y'):=by simp[jQ,ex,ey,p3,q2,hn,hpc,hqc]
       have hnx:=k9 hi hc;have hcm:=vU hi hc;have hok:=hnx.ok;have hdec:=hnx.dec;have hlx2:(bX p n::x').length<=1000:=Dl;have hly2:(bX q n::y').length<=1000:=Dk;simp only at hcm hok hdec;simp;intro b1 b2;by_cases q1:q.kind=1
       ·simp only[q1,dA]at hcm hok
        simp[qk,q1,pk,e5,g5];intro b3;refine⟨aa,λH2=>Ent.refl ⟨bX p n::x',bX q n::y',L++[pc],⟨hnx.inv,yZ,?_,?_,hlx2,hly2⟩,hdec,H2,?_⟩⟩
        ·exact Rs
        ·simp;omega
        ·simp[R.gx,R.gy,Part.row,pk]
       ·by_cases p1:p.kind=1
        ·simp only[q1,p1,dA,dy]at hcm hok
         simp[qk,q1,pk,p1,e5,g5];intro b3;refine⟨aa,λH2=>Ent.refl ⟨bX p n::x',bX q n::y',L++[qc],⟨hnx.inv,yZ,?_,?_,hlx2,hly2⟩,hdec,H2,?_⟩⟩
         ·exact Rs
         ·simp;omega
         ·simp[R.gx,R.gy,Part.row,qk]
        ·simp only[q1,p1,dy,ig]at hcm hok
         simp[qk,q1,pk,p1];refine Ent.refl ⟨bX p n::x',bX q n::y',L,⟨hnx.inv,by rw[<-hcmp,hcm],hL,aa,hlx2,hly2⟩,hdec,H,?_⟩;simp[R.gx,R.gy,e5,g5]
theorem IW(p:Part)(h:aY p):ar Tryz.prog 345 [.agg p.row] (.one (.c (vi (psz p)) 1)):=by
 refine pci aq Tryz.func345 (λw0 base=>?_);have hp:=jD h;have hb:=h.bounds;rw[hp.1];simp[Part.row];by_cases hk:p.kind=2
 ·have:=hb.2.2.2.2.1 hk
  simp[hk,this]
 ·have:=hb.2.2.2.2.2 hk
  simp[hk,this]
structure Cu(a:List Part)(i d:Nat)(X:List Part):Prop where
 ok:∀p∈a,aY p
 le:i<=a.length
 v:∀h:i<a.length,d<=psz a[i]
 z:i=a.length->d=0
 c:cur a i d=X
def hdK:List Part->Int
 | []=>0
 |p::_=>p.kind
structure CR(kx ky bx by_:Nat)(h0 h:AH)(a b:List Part)(i d j e:Nat)(X Y:List Part):Prop where
 ne:kx≠ky
 lx:kx<14000-16
 ly:ky<14000-16
 gx:AH.get h kx=.vars bx 265 [.ro (a.map Part.row),.v (.int .i64 i),.v (.int .i64 d)]
 gy:AH.get h ky=.vars by_ 265 [.ro (b.map Part.row),.v (.int .i64 j),.v (.int .i64 e)]
 o:∀q,q≠kx->q≠ky->q<14000->AH.get h q=AH.get h0 q
 cx:Cu a i d X
 cy:Cu b j e Y
theorem CR.swap{kx ky bx by_:Nat}{h0 h:AH}{a b:List Part}{i d j e:Nat}{X Y:List Part}(R:CR kx ky bx by_ h0 h a b i d j e X Y):CR ky kx by_ bx h0 h b a j e i d Y X:=⟨R.ne.symm,R.ly,R.lx,R.gy,R.gx,λq h1 h2=>R.o q h2 h1,R.cy,R.cx⟩
theorem Cu.bnd{a:List Part}{i d:Nat}{X:List Part}(h:Cu a i d X):d<=200:=by
 by_cases hlt:i<a.length
 ·have:=h.v hlt
  have:=(jD (h.ok _ (ao hlt))).2;omega
 ·have:=h.z (by have:=h.le;omega)
  omega
theorem Xq{w0:World}{bF bG:Nat->Prop}{bl:Bool}{st:ASt}{dst:Option Nat}{K:ASt->Prop}{kx b i d:Nat}{a X:List Part}(_hk:kx<14000)(hl:a.length<=2^20)(cx:Cu a i d X)
 (g:st.h.get kx=.vars b 265 [.ro (a.map Part.row),.v (.int .i64 i),.v (.int .i64 d)])
 (hK:∀h' i' d',Cu a i' d' (nxt X)->AH.get h' kx=.vars b 265 [.ro (a.map Part.row),.v (.int .i64 i'),.v (.int .i64 d')]->(∀q,q≠kx->q<20000->AH.get h' q=st.h.get q)->cG ⟨st.n,st.kb,st.t,h'⟩ dst (.v (.int .i64 (hdK (nxt X)))) K) :
 ae ⟨Tryz.prog,tt,w0,⟨bF,bG,bl,λ_=>True⟩⟩ 282 [.p kx b 0] st dst K:=by
 refine inl aq Tryz.func282 20000 (λw1 F=>?_);simp;refine AC eok (λx:Nat×Nat=>Cu a x.1 x.2 (cur a x.1 x.2)/\nxt (cur a x.1 x.2)=nxt X) (λx=>⟨62,20000,[(0,.p kx b 0),(2,.v (.int .i64 0))],(kx,.vars b 265 [.ro (a.map Part.row),.v (.int .i64 x.1),.v (.int .i64 x.2)])::st.h⟩) (λx=>a.length-x.1) (i,d) ⟨⟨cx.ok,cx.le,cx.v,cx.z,rfl⟩,by rw[cx.c]⟩ (by simp[g]) (λx hx=>?_);obtain⟨i,d⟩:=x;obtain⟨hc,hn⟩:=hx;have hcl:=hc.le;have hb:=hc.bnd;simp only at hc hn hcl⊢;simp;by_cases hlt:i<a.length
 ·have hp:=hc.ok _ (ao hlt)
  have hd:=hc.v hlt;have hps:=jD hp;refine cg.quiet eok mix ai ?_;simp[hlt];refine⟨_,_,IW a[i] hp,iP,?_⟩;by_cases he:d=psz a[i]
  ·have e1:Go.IntKind.i64.wrap ((i:Int)+1)=((i+1:Nat):Int):=aZ aa
   simp[he,e1];refine⟨i+1,0,⟨⟨hc.ok,aa,λ_=>aa,λ_=>rfl,rfl⟩,?_⟩,aa,aa,rfl⟩;rw[<-hn,he,abz hc.ok hlt]
  ·have he2:¬(d:Int)=psz a[i]:=by omega
   have hne:¬i=a.length:=aa;simp[he2];refine cg.quiet eok mix ai ?_;have hne2:¬(i:Int)=a.length:=aa;simp[hne2];refine cg.quiet eok mix ai ?_;simp[hlt,Part.row];have hs:=aby hc.ok hlt (show d<psz a[i]from aa);rw[hs]at hn;have hk2:hdK (nxt X)=a[i].kind:=by rw[<-hn,Gp hlt];simp[hdK]
   rw[hk2]at hK;refine hK _ i d ⟨hc.ok,hc.le,hc.v,hc.z,hn⟩ ab (λq q1 q2=>by simp[q1])
 ·have hi:i=a.length:=by omega
  have hd:=hc.z hi;refine cg.quiet eok mix ai ?_;simp[hlt];refine cg.quiet eok mix ai ?_;simp[hi];have hn2:nxt X=[]:=by rw[<-hn,LH aa];rfl
  rw[hn2]at hK;refine hK _ i d ⟨hc.ok,hc.le,hc.v,hc.z,LH aa⟩ (by simp[hi]) (λq q1 q2=>by simp[q1])
theorem Cu.head{a:List Part}{i d:Nat}{p:Part}{l:List Part}(h:Cu a i d (p::l)):∃hi:i<a.length,p=bX a[i] d/\l=a.drop (i+1)/\psz p=psz a[i]-d/\d<=psz a[i]/\p.kind=a[i].kind/\aY p:=by
 have hi:i<a.length:=by
  have:=h.le;rcases uK i a.length with h1|h1
  ·exact h1
  ·have:=h.c
   rw[LH h1]at this
   cases this
 have hc:=h.c;rw[Gp hi]at hc
 cases hc
 have hp:=h.ok _ (ao hi);exact⟨hi,rfl,rfl,jG hp (h.v hi),h.v hi,ab,MU hp (h.v hi)⟩
theorem Cu.add{a:List Part}{i d n:Nat}{p:Part}{l:List Part}(h:Cu a i d (p::l))(hn:n<=psz p):Cu a i (d+n) (bX p n::l):=by
 obtain⟨hi,h1,h2,h3,h4,-,-⟩:=h.head;exact⟨h.ok,h.le,λ_=>aa,λhe=>aa,(abA hi h.c).symm⟩
theorem Xj{w0:World}{bF bG:Nat->Prop}{bl:Bool}{st:ASt}{dst:Option Nat}{K:ASt->Prop}{kx b i d:Nat}{a l:List Part}{p:Part}(cx:Cu a i d (p::l))
 (g:st.h.get kx=.vars b 265 [.ro (a.map Part.row),.v (.int .i64 i),.v (.int .i64 d)])
 (hK:cG st dst (.v (.int .i64 (psz p))) K) :
 ae ⟨Tryz.prog,tt,w0,⟨bF,bG,bl,λ_=>True⟩⟩ 283 [.p kx b 0] st dst K:=by
 refine inl aq Tryz.func283 20000 (λw1 F=>?_);obtain⟨hi,h1,h2,h3,h4,-,-⟩:=cx.head;have hp:=cx.ok _ (ao hi);have hps:=jD hp;simp;refine cg.quiet eok mix ai ?_;simp[g,hi];refine⟨_,_,IW a[i] hp,iP,?_⟩;have e:Go.IntKind.i64.wrap ((psz a[i]:Int)-(d:Int))=(psz p:Int):=by rw[ah _ aa];omega
 simp[e];exact hK
theorem LI{w0:World}{bF bG:Nat->Prop}{bl:Bool}{st:ASt}{dst:Option Nat}{K:ASt->Prop}{kx b i d n:Nat}{a l:List Part}{p:Part}(_hk:kx<14000)(cx:Cu a i d (p::l))(hk2:p.kind=2)(hn:n<=psz p)
 (g:st.h.get kx=.vars b 265 [.ro (a.map Part.row),.v (.int .i64 i),.v (.int .i64 d)])
 (hK:∀h',Cu a i (d+n) (bX p n::l)->AH.get h' kx=.vars b 265 [.ro (a.map Part.row),.v (.int .i64 i),.v (.int .i64 ((d+n:Nat):Int))]->(∀q,q≠kx->q<20000->AH.get h' q=st.h.get q)->cG ⟨st.n,st.kb,st.t,h'⟩ dst (.ro ((p.signs.take n).map aN)) K) :
 ae ⟨Tryz.prog,tt,w0,⟨bF,bG,bl,λ_=>True⟩⟩ 286 [.p kx b 0,.v (.int .i64 n)] st dst K:=by
 refine inl aq Tryz.func286 20000 (λw1 F=>?_);obtain⟨hi,h1,h2,h3,h4,h5,-⟩:=cx.head;have hp:=cx.ok _ (ao hi);have hps:=jD hp;have hkk:a[i].kind=2:=by rw[<-h5];exact hk2
 have hn0:=hp.bounds.2.2.2.2.1 hkk;have hsz:psz a[i]=a[i].signs.length:=aa;have hs:p.signs=a[i].signs.drop d:=by rw[h1];simp[bX,hkk]
 have e:Go.IntKind.i64.wrap ((d:Int)+(n:Int))=((d+n:Nat):Int):=by rw[ah _ aa];omega
 have hle:d+n<=a[i].signs.length:=aa
 have hv:cut (a[i].signs.map aN) d n=(p.signs.take n).map aN:=by
  unfold cut
  split
  ·rename_i hh
   rw[hs,hh.1];simp at hh;simp[hh.2]
  ·rw[hs,eO,sH]
 obtain⟨m,hm⟩:∃m,d+n=m:=⟨_,rfl⟩;have e2:m-d=n:=aa;have hadd:=cx.add hn;rw[hm]at e hle hK hadd;simp;refine cg.quiet eok mix ai ?_;simp[g,hi,Part.row,e,e2,hv];simp only[eO]at hK;refine⟨hle,aa,hK _ hadd ?_ (λq q1 q2=>?_)⟩
 ·simp
 ·simp[q1]
theorem Ng(x y:Nat):ar Tryz.prog 287 [.c (vi x),.c (vi y)] (.one (.c (vi ((min x y:Nat):Int)) 1)):=by
 refine pci aq Tryz.func287 (λw0 base=>?_);simp;by_cases h:x<y
 ·have:min x y=x:=by omega
  simp[h,this]
 ·have:min x y=y:=by omega
  simp[h,this]
section
variable {w0:World}{bF bG:Nat->Prop}{bl:Bool}{st:ASt}{dst:Option Nat}{K:ASt->Prop}{kx ky bx by_ i d j e:Nat}{h0:AH}{a b X Y:List Part}
theorem CR.kind(R:CR kx ky bx by_ h0 st.h a b i d j e X Y)(hl:a.length<=2^20)(hK:∀h' i' d',CR kx ky bx by_ h0 h' a b i' d' j e (nxt X) Y->cG ⟨st.n,st.kb,st.t,h'⟩ dst (.v (.int .i64 (hdK (nxt X)))) K) :
 ae ⟨Tryz.prog,tt,w0,⟨bF,bG,bl,λ_=>True⟩⟩ 282 [.p kx bx 0] st dst K:=by
 have:=R.lx;have:=R.ly;refine Xq aa hl R.cx R.gx (λh1 i1 d1 c1 g1 o1=>hK h1 i1 d1 ⟨R.ne,R.lx,R.ly,g1,by rw[o1 ky R.ne.symm aa];exact R.gy,λq q1 q2 q3=>by rw[o1 q q1 aa];exact R.o q q1 q2 q3,c1,R.cy⟩)
theorem CR.left{p:Part}{l:List Part}(R:CR kx ky bx by_ h0 st.h a b i d j e (p::l) Y)(hK:cG st dst (.v (.int .i64 (psz p))) K) :
 ae ⟨Tryz.prog,tt,w0,⟨bF,bG,bl,λ_=>True⟩⟩ 283 [.p kx bx 0] st dst K:=Xj R.cx R.gx hK
theorem CR.take{p:Part}{l:List Part}{n:Nat}(R:CR kx ky bx by_ h0 st.h a b i d j e (p::l) Y)(hk2:p.kind=2)(hn:n<=psz p)(hK:∀h',CR kx ky bx by_ h0 h' a b i (d+n) j e (bX p n::l) Y->cG ⟨st.n,st.kb,st.t,h'⟩ dst (.ro ((p.signs.take n).map aN)) K) :
 ae ⟨Tryz.prog,tt,w0,⟨bF,bG,bl,λ_=>True⟩⟩ 286 [.p kx bx 0,.v (.int .i64 n)] st dst K:=by
 have:=R.lx;have:=R.ly;refine LI aa R.cx hk2 hn R.gx (λh1 c1 g1 o1=>hK h1 ⟨R.ne,R.lx,R.ly,g1,by rw[o1 ky R.ne.symm aa];exact R.gy,λq q1 q2 q3=>by rw[o1 q q1 aa];exact R.o q q1 q2 q3,c1,R.cy⟩)
theorem CR.rebase(R:CR kx ky bx by_ h0 st.h a b i d j e X Y){h':AH}(hx:AH.get h' kx=AH.get st.h kx)(hy:AH.get h' ky=AH.get st.h ky):CR kx ky bx by_ h' h' a b i d j e X Y:=
 ⟨R.ne,R.lx,R.ly,hx.trans R.gx,hy.trans R.gy,λ_ _ _ _=>rfl,R.cx,R.cy⟩
theorem CR.done{p:Part}{l:List Part}{n:Nat}(R:CR kx ky bx by_ h0 st.h a b i d j e (p::l) Y)(hn:n<=psz p):CR kx ky bx by_ ((kx,.vars bx 265 [.ro (a.map Part.row),.v (.int .i64 i),.v (.int .i64 ((d+n:Nat):Int))])::st.h) ((kx,.vars bx 265 [.ro (a.map Part.row),.v (.int .i64 i),.v (.int .i64 ((d+n:Nat):Int))])::st.h) a b i (d+n) j e (bX p n::l) Y:=
 ⟨R.ne,R.lx,R.ly,ab,by rw[bU,ak R.ne.symm];exact R.gy,λ_ _ _ _=>rfl,R.cx.add hn,R.cy⟩
end
open Go.AM
set_option maxRecDepth 20000
theorem ur{w0:World}{bF bG:Nat->Prop}{bl:Bool}{st:ASt}{dst:Option Nat}{K:ASt->Prop}{L:List Part}{P:List Int}{D:Int}{b:Nat}{Hl Hp:Hd}(hL:L.length<=2^20)(_hP:P.length<=2^40)
 (g160:st.h.get 576=.vars b 268 [.sl 5000 Hl 3 0 L.length,.sl 5001 Hp 1 0 P.length,.v (.int .i64 D)])
 (g5000:st.h.get 5000=.rows Hl 3 (L.map Part.row) true) (g5001:st.h.get 5001=.rows Hp 1 (P.map aN) true)
 (hK:∀Hl' h',AH.get h' 576=.vars b 268 [.sl 5000 Hl' 3 0 (bq L P D).length,.nil,.v (.int .i64 0)]->AH.get h' 5000=.rows Hl' 3 ((bq L P D).map Part.row) true ->
  (∀q,q<15000->q≠576->q≠5000->q≠5001->AH.get h' q=st.h.get q)->cG ⟨st.n,st.kb,st.t,h'⟩ dst (.tup []) K):ae ⟨Tryz.prog,tt,w0,⟨bF,bG,bl,λ_=>True⟩⟩ 346 [.p 576 b 0] st dst K:=by
 refine inl aq Tryz.func346 20000 (λw1 F=>?_);simp[g160];by_cases hp:P=[]
 ·have hp0:¬0<P.length:=by simp[hp]
  simp[hp0,g160];by_cases hd:0<D
  ·simp[hd]
   refine drw eok mix [0,1,2,3,4,5,6,7,8,9,12,13] [10,11,14] (.c 12 10 4 4091 (.c 12 11 128 3963 (.c 12 14 3961 2 (.l 12 2) .s) .s) .s) ?_;simp[g160,g5000];intro b1;refine⟨aa,λH=>hK H _ ?_ ?_ ?_⟩
   ·simp[rD hp hd]
   ·simp[rD hp hd,Part.row]
   ·intro q q0 q1 q2 q3
    repeat (first|exact rfl|refine(cV aa).trans ?_)
  ·simp[hd,g160]
   refine hK Hl _ ?_ ?_ ?_
   ·simp[rC hp hd]
   ·simp[rC hp hd,g5000]
   ·intro q q0 q1 q2 q3
    repeat (first|exact rfl|refine(cV aa).trans ?_)
 ·have hp0:0<P.length:=bJ.2 hp
  simp[hp0];refine drw eok mix [0,1,2,3,4,5,6,7,8,9,12,13] [10,11,14] (.c 12 10 4 4091 (.c 12 11 128 3963 (.c 12 14 3961 2 (.l 12 2) .s) .s) .s) ?_;simp[g160,g5000,g5001];intro b1;refine⟨aa,λH=>?_⟩;by_cases hd:0<D
  ·simp[hd]
   refine drw eok mix [0,1,2,3,4,5,6,7,8,9,12,13] [10,11,14] (.c 12 10 4 4091 (.c 12 11 128 3963 (.c 12 14 3961 2 (.l 12 2) .s) .s) .s) ?_;simp;intro b2;refine⟨aa,λH2=>hK H2 _ ?_ ?_ ?_⟩
   ·simp[rF hp hd]
   ·simp[rF hp hd,Part.row]
   ·intro q q0 q1 q2 q3
    repeat (first|exact rfl|refine(cV aa).trans ?_)
  ·simp[hd]
   refine hK H _ ?_ ?_ ?_
   ·simp[rE hp hd]
   ·simp[rE hp hd,Part.row]
   ·intro q q0 q1 q2 q3
    repeat (first|exact rfl|refine(cV aa).trans ?_)
theorem ET{w0:World}{bF bG:Nat->Prop}{bl:Bool}{st:ASt}{dst:Option Nat}{K:ASt->Prop}{L:List Part}{P:List Int}{D n:Int}{b:Nat}{Hl Hp:Hd}(hL:L.length<=2^19)(hP:P.length<=2^40)(hn0:0<n)(hn:n<=200)(hF:∀q∈bq L P D,0<=q.n/\q.n<=2^40)
 (g160:st.h.get 576=.vars b 268 [.sl 5000 Hl 3 0 L.length,.sl 5001 Hp 1 0 P.length,.v (.int .i64 D)])
 (g5000:st.h.get 5000=.rows Hl 3 (L.map Part.row) true) (g5001:st.h.get 5001=.rows Hp 1 (P.map aN) true)
 (hK:∀Hl' h',AH.get h' 576=.vars b 268 [.sl 5000 Hl' 3 0 (dX (bq L P D) n).length,.nil,.v (.int .i64 0)]->AH.get h' 5000=.rows Hl' 3 ((dX (bq L P D) n).map Part.row) true ->
  (∀q,q<15000->q≠576->q≠5000->q≠5001->AH.get h' q=st.h.get q)->cG ⟨st.n,st.kb,st.t,h'⟩ dst (.tup []) K):ae ⟨Tryz.prog,tt,w0,⟨bF,bG,bl,λ_=>True⟩⟩ 288 [.p 576 b 0,.v (.int .i64 n)] st dst K:=by
 refine inl aq Tryz.func288 30000 (λw1 F=>?_);have n0:¬n=0:=aa;simp[n0];refine ur (L:=L) (P:=P) (D:=D) (Hl:=Hl) (Hp:=Hp) aa hP (by simp[g160]) (by simp[g5000]) (by simp[g5001]) (λHl' h' k160 k5000 k80=>?_);have f1:=jN L P D;generalize bq L P D=F at f1 hF k160 k5000 hK;by_cases hF0:0<F.length
 ·obtain⟨m,hm⟩:∃m,F.length=m+1:=⟨F.length-1,aa⟩
  have hmlt:m<F.length:=aa;have hmm:(m:Int)<m+1:=aa;have em:Go.IntKind.i64.wrap (m:Int)=m:=gb aa
  have hk:dX F n=if F[m].kind=1 then F.set m ⟨1,F[m].n+n,F[m].signs⟩else F++[⟨1,n,[]⟩]:=by
   exact zd
  have hq:=hF _ (ao hmlt);have em2:Go.IntKind.i64.wrap (F[m].n+n)=F[m].n+n:=ah _ aa;simp[k160,k5000,hm,em,hmm,Part.row];by_cases ck:F[m].kind=1
  ·rw[al ck]at hk
   simp[ck];refine drw eok mix [0,1,2,3,4,5,6,7,8,9,10,11,12,13,14,15,16,17,18] [19] (.c 19 19 524285 2 (.l 19 2) .s) ?_;simp[k160,k5000,hm,em,hmm,Part.row,ck,em2];have hmod:=nP (F:=F) (m:=m) hmlt (g:=λrow=>jX row 1 [CD.v (Value.int IntKind.i64 (F[m].n+n))]) (p:=⟨1,F[m].n+n,F[m].signs⟩) wq;refine hK Hl' _ ?_ ?_ ?_
   ·simp[k160,hk,hm]
   ·simp[hk,hmod]
   ·intro q q0 q1 q2 q3
    repeat (first|exact k80 q q0 q1 q2 q3|exact rfl|refine(cV aa).trans ?_)
  ·rw[ak ck]at hk
   simp[ck,k160,k5000,hm];intro b1;refine⟨aa,λH=>hK H _ ?_ ?_ ?_⟩
   ·simp[hk,hm]
   ·simp[hk,Part.row]
   ·intro q q0 q1 q2 q3
    repeat (first|exact k80 q q0 q1 q2 q3|exact rfl|refine(cV aa).trans ?_)
 ·have hF1:F=[]:=aF aa
  subst hF1;have hk:dX [] n=[⟨1,n,[]⟩]:=wo;simp[k160,k5000];intro b1 H;refine hK H _ ?_ ?_ ?_
  ·simp[hk]
  ·simp[hk,Part.row]
  ·intro q q0 q1 q2 q3
   repeat (first|exact k80 q q0 q1 q2 q3|exact rfl|refine(cV aa).trans ?_)
theorem xC{w0:World}{bF bG:Nat->Prop}{bl:Bool}{st:ASt}{dst:Option Nat}{K:ASt->Prop}{L:List Part}{P l:List Int}{D:Int}{b:Nat}{Hl Hp:Hd}(hP:P.length<=2^40)(hl:l.length<=2^40)
 (g160:st.h.get 576=.vars b 268 [.sl 5000 Hl 3 0 L.length,.sl 5001 Hp 1 0 P.length,.v (.int .i64 D)]) (g5001:st.h.get 5001=.rows Hp 1 (P.map aN) true)
 (hK:∀Hp' h',AH.get h' 576=.vars b 268 [.sl 5000 Hl 3 0 L.length,.sl 5001 Hp' 1 0 (P++l).length,.v (.int .i64 D)]->AH.get h' 5001=.rows Hp' 1 ((P++l).map aN) true->AH.get h' 5000=st.h.get 5000 ->
  (∀q,q<15000->q≠576->q≠5000->q≠5001->AH.get h' q=st.h.get q)->cG ⟨st.n,st.kb,st.t,h'⟩ dst (.tup []) K):ae ⟨Tryz.prog,tt,w0,⟨bF,bG,bl,λ_=>True⟩⟩ 285 [.p 576 b 0,.ro (l.map aN)] st dst K:=by
 refine inl aq Tryz.func285 30000 (λw1 F=>?_);simp[g160,g5001];refine⟨aa,λH=>hK H _ ?_ ?_ ?_ ?_⟩
 ·simp
 ·simp
 ·simp
 ·intro q q0 q1 q2 q3
  repeat (first|exact rfl|refine(cV aa).trans ?_)
theorem uW{w0:World}{bF bG:Nat->Prop}{bl:Bool}{st:ASt}{dst:Option Nat}{K:ASt->Prop}{n D:Int}{b:Nat}{x y:AV}(h0:0<=D/\D<=2^40)(h1:0<=n/\n<=2^40)
 (g160:st.h.get 576=.vars b 268 [x,y,.v (.int .i64 D)])
 (hK:∀h',AH.get h' 576=.vars b 268 [x,y,.v (.int .i64 (D+n))]->(∀q,q≠576->AH.get h' q=st.h.get q)->cG ⟨st.n,st.kb,st.t,h'⟩ dst (.tup []) K):ae ⟨Tryz.prog,tt,w0,⟨bF,bG,bl,λ_=>True⟩⟩ 284 [.p 576 b 0,.v (.int .i64 n)] st dst K:=by
 refine inl aq Tryz.func284 30000 (λw1 F=>?_);have e:Go.IntKind.i64.wrap (D+n)=D+n:=ah _ aa;simp[g160,e];refine hK _ ab (λq hq=>by simp[hq])
set_option maxHeartbeats 1600000
theorem fM(L:List Part)(p:Part):bT (L++[p])=fb (bT L) p:=by simp[bT,List.foldl_append]
theorem A3{L:List Part}(h:∀p∈L,aY p):NbOk L.length (bT L):=by
 have:=qa h L.length (aC _)
 rwa[dn]at this
theorem xE(a b:List Part)(ha:nL aM a<=2^40)(hb:nL aM b<=2^40):ar Tryz.prog 188 [.c (.s (a.map Part.row)),.c (.s (b.map Part.row))] (.tup [.c (.s ((fh a b).1.map Part.row)) 3,.c (.v (.bool (fh a b).2)) 1]):=by
 refine pci aq Tryz.func188 (λw0 base=>?_);simp;refine ae.pure (eo a ha) ab ?_;by_cases c1:cz a
 rotate_left
 ·have e:=mI (a:=a) (b:=b) (λh=>c1 h.1)
  exact DQ
 simp[c1];refine ae.pure (eo b hb) ab ?_;by_cases c2:cz b
 rotate_left
 ·have e:=mI (a:=a) (b:=b) (λh=>c2 h.2.1)
  exact DP
 simp[c2];refine ae.pure (s7 a ha) ab ?_;simp;refine ae.pure (gB b hb) ab ?_;by_cases c3:jt a=bS b
 rotate_left
 ·have e:=mI (a:=a) (b:=b) (λh=>c3 h.2.2)
  simp[c3,e]
 have hf:=Ai c1 c2 c3;simp[c3];intro bx by_ bz;have t1:=uN c1;have t2:=uN c2;have la:=c1.1.2;have lb:=c2.1.2;have z0:∀o:List Part,cur o 0 0=o:=λo=>by rw[Gn,fq]
 refine aE eok (λx:Nat×Nat×Nat×Nat×List Part×Hd×Hd=>Cu a x.1 x.2.1 (cur a x.1 x.2.1)/\Cu b x.2.2.1 x.2.2.2.1 (cur b x.2.2.1 x.2.2.2.1)/\CInv (cur a x.1 x.2.1) (cur b x.2.2.1 x.2.2.2.1)/\x.2.2.2.2.1++cmp (cur a x.1 x.2.1) (cur b x.2.2.1 x.2.2.2.1)=cmp a b/\(∀p∈x.2.2.2.2.1,aY p)/\x.2.2.2.2.1.length+(tsz (cur a x.1 x.2.1)+tsz (cur b x.2.2.1 x.2.2.2.1))<=800)
  (λx=>⟨144,0,[(6,.p 496 bx 0),(7,.p 544 by_ 0),(8,.p 576 bz 0)],
  [(496, .vars bx 265 [.ro (a.map Part.row), .v (.int .i64 x.1), .v (.int .i64 x.2.1)]),(544, .vars by_ 265 [.ro (b.map Part.row), .v (.int .i64 x.2.2.1), .v (.int .i64 x.2.2.2.1)]),
   (576,.vars bz 268 [.sl 5000 x.2.2.2.2.2.1 3 0 (bT x.2.2.2.2.1).1.length,.sl 5001 x.2.2.2.2.2.2 1 0 (bT x.2.2.2.2.1).2.1.length,.v (.int .i64 (bT x.2.2.2.2.1).2.2)]),
   (5000,.rows x.2.2.2.2.2.1 3 ((bT x.2.2.2.2.1).1.map Part.row) true),(5001,.rows x.2.2.2.2.2.2 1 ((bT x.2.2.2.2.1).2.1.map aN) true)]⟩) (λx=>tsz (cur a x.1 x.2.1)+tsz (cur b x.2.2.1 x.2.2.2.1)) (0,0,0,0,[],none,none)
  ⟨⟨c1.1.1,dz _,λ_=>dz _,λ_=>rfl,rfl⟩,⟨c2.1.1,dz _,λ_=>dz _,λ_=>rfl,rfl⟩,by simp only[z0];exact VW c1 c2 c3,by simp[z0],ab,by simp[z0];omega⟩ (by simp[bT]) (λx hx=>Ent.refl ?_)
 obtain⟨i,d,j,e,L,H,G⟩:=x;obtain⟨cx,cy,hi,hcmp,hL,hlen⟩:=hx;simp only at cx cy hi hcmp hL hlen⊢;have hB:=A3 hL;obtain⟨B,hBe⟩:∃B,bT L=B:=⟨_,rfl⟩;obtain⟨BL,BP,BD⟩:=B;rw[hBe]at hB;obtain⟨k1,k2,k3,k4,k5⟩:=hB;simp only[hBe];simp only at k1 k2 k3 k4 k5;obtain⟨X,hX⟩:∃X,cur a i d=X:=⟨_,rfl⟩;obtain⟨Y,hY⟩:∃Y,cur b j e=Y:=⟨_,rfl⟩;rw[hX]at cx hi hcmp hlen;rw[hY]at cy hi hcmp hlen
 obtain⟨h0,hh0⟩:∃h0:AH,[(496,.vars bx 265 [.ro (a.map Part.row),.v (.int .i64 i),.v (.int .i64 d)]),(544,.vars by_ 265 [.ro (b.map Part.row),.v (.int .i64 j),.v (.int .i64 e)]),
  (576,.vars bz 268 [.sl 5000 H 3 0 BL.length,.sl 5001 G 1 0 BP.length,.v (.int .i64 BD)]),
  (5000,.rows H 3 (BL.map Part.row) true),(5001,.rows G 1 (BP.map aN) true)]=h0:=⟨_,rfl⟩
 have R:CR 496 544 bx by_ h0 h0 a b i d j e X Y:=⟨ag,ag,ag,gS,gS,λ_ _ _ _=>rfl,cx,cy⟩;have g5:AH.get h0 5000=.rows H 3 (BL.map Part.row) true:=gS;have g6:AH.get h0 5001=.rows G 1 (BP.map aN) true:=gS;have g7:AH.get h0 576=.vars bz 268 [.sl 5000 H 3 0 BL.length,.sl 5001 G 1 0 BP.length,.v (.int .i64 BD)]:=gS;rw[hh0]
 clear hh0
 simp
 have fin:∀{i' d' j' e':Nat}{r:List Part×List Part×List Part},Cu a i' d' r.2.1->Cu b j' e' r.2.2->jQ X Y=some r ->
  (Cu a i' d' (cur a i' d')/\Cu b j' e' (cur b j' e')/\CInv (cur a i' d') (cur b j' e')/\(L++r.1)++cmp (cur a i' d') (cur b j' e')=cmp a b/\(∀p∈L++r.1,aY p)/\(L++r.1).length+(tsz (cur a i' d')+tsz (cur b j' e'))<=800)/\tsz (cur a i' d')+tsz (cur b j' e')<tsz (cur a i d)+tsz (cur b j e):=by
  intro i' d' j' e' r hu hv hs;have hn:=k9 hi hs;have hcm:=vU hi hs;have hdec:=hn.dec;have hln:=hn.len;rw[hu.c,hv.c,hX,hY];refine⟨⟨hu,hv,hn.inv,by rw[cU,<-hcm,hcmp],?_,?_⟩,hdec⟩
  ·intro p hp
   rcases aO.1 hp with hp|hp
   ·exact hL p hp
   ·exact hn.ok p hp
  ·rw[dU];omega
 refine R.kind aa (λh1 i1 d1 R=>?_);have okx:∀p∈nxt X,aY p:=λp hp=>hi.px p (mb hp)
 have oky:∀p∈nxt Y,aY p:=λp hp=>hi.py p (mb hp)
 have hxt:=D8 X;have hyf:=mc Y;have hbal:=hi.b
 cases ex:nxt X with
 | nil =>
   rw[ex]at R;simp[hdK];refine R.swap.kind aa (λh2 j1 e1 R=>?_);have R:=R.swap
   cases ey:nxt Y with
   | nil =>
     have hc:cmp X Y=[]:=NV (by simp[jQ,ex,ey]);simp[hdK];rw[hc,cu]at hcmp;have e5:=R.o 5000 ag ag ag;have e6:=R.o 5001 ag ag ag;have e7:=R.o 576 ag ag ag;refine inl aq Tryz.func289 30000 (λw1 F=>?_);simp;refine ur (L:=BL) (P:=BP) (D:=BD) (Hl:=H) (Hp:=G) aa aa (by simp[e7,g7]) (by simp[e5,g5]) (by simp[e6,g6]) (λHl' h' k576 k5000 ko=>?_);have hnorm:bq BL BP BD=normal (cmp a b):=by rw[<-hcmp];unfold normal;rw[hBe]
     rw[hnorm]at k576 k5000;simp[k576];refine ae.pure (eo (normal (cmp a b)) (by rw[<-hcmp];have:=nO hL;omega)) (by simp[k5000]) ?_;by_cases c4:cz (normal (cmp a b))
     ·have e:=hf.1 c4
      simp[c4,e,k5000]
     ·exact Sp
   | cons q y' =>
     rw[ey]at R;have hq:=(gC hi.py ey).1;have hqb:=hq.bounds;have q0:¬q.kind=0:=aa;simp[hdK,q0];refine R.kind aa (λh3 i2 d2 R=>?_);simp only[nxt]at R;simp[nxt,hdK];refine R.swap.kind aa (λh4 j2 e2 R=>?_);have R:=R.swap;rw[<-ey,ee,ey]at R;rw[<-ey,ee,ey];by_cases q2:q.kind=2
     ·simp[hdK,q2]
      refine R.swap.left ?_;simp;refine R.swap.take q2 (aC _) (λh5 R=>?_);have R:=R.swap;have e5:=R.o 5000 ag ag ag;have e6:=R.o 5001 ag ag ag;have e7:=R.o 576 ag ag ag;simp;have hc:jQ X Y=some ([fJ q (psz q)],[],bX q (psz q)::y'):=by simp[jQ,ex,ey,q2]
      exact UZ
     ·exact RQ
 | cons p x' =>
   rw[ex]at R;have hp:=(gC hi.px ex).1;have hpb:=hp.bounds;have hps:=jD hp;have p0:¬p.kind=0:=aa;simp[hdK,p0];refine R.kind aa (λh3 i2 d2 R=>?_);rw[<-ex,ee,ex]at R;rw[<-ex,ee,ex];by_cases p3:p.kind=3
   ·simp[hdK,p3]
    refine R.left ?_;simp;have e5:=R.o 5000 ag ag ag;have e6:=R.o 5001 ag ag ag;have e7:=R.o 576 ag ag ag;refine uW (n:=(psz p:Int)) (D:=BD) aa aa (e7.trans g7) (λh' k576 ko=>?_);have R:=R.rebase (h':=h') (ko 496 ag) (ko 544 ag);have hc:jQ X Y=some ([fJ p (psz p)],bX p (psz p)::x',Y):=by simp[jQ,ex,p3]
    have hd:=R.done (st:=⟨144,0,[],h'⟩) (aC (psz p));obtain⟨m,hm⟩:∃m,d2+psz p=m:=⟨_,rfl⟩;have ew:Go.IntKind.i64.wrap ((d2:Int)+(psz p:Int))=(m:Int):=JN;rw[hm]at hd;have hf:=fin hd.cx hd.cy hc;rw[fi hp]at hf;have h5:=ko 5000 ag;have h6:=ko 5001 ag;simp[R.gx,ew];refine Ent.refl ⟨_,_,_,_,_,hf.1,hf.2,H,G,?_⟩;rw[fM,hBe];have hpn:(psz p:Int)=p.n:=by have:=hpb.2.2.2.2.2 aa;rw[hps.1,this];simp
    simp[fb,p3,R.gy,k576,h5,h6,e5,g5,e6,g6,hpn]
   ·simp[hdK,p3]
    refine R.swap.kind aa (λh4 j2 e2 R=>?_);have R:=R.swap
    cases ey:nxt Y with
    | nil =>
      exact RT
    | cons q y' =>
      rw[ey]at R;have hq:=(gC hi.py ey).1;have hqb:=hq.bounds;have hqs:=jD hq;by_cases q2:q.kind=2
      ·simp[hdK,q2]
       refine R.swap.left ?_;simp;refine R.swap.take q2 (aC _) (λh5 R=>?_);have R:=R.swap;have e5:=R.o 5000 ag ag ag;have e6:=R.o 5001 ag ag ag;have e7:=R.o 576 ag ag ag;simp;have hc:jQ X Y=some ([fJ q (psz q)],p::x',bX q (psz q)::y'):=by simp[jQ,ex,ey,q2,p3]
       exact UZ
      ·simp[hdK,q2]
       refine R.left ?_;simp;refine R.swap.left ?_;simp;refine ae.pure (Ng (psz p) (psz q)) ab ?_;have pp:=ga ex;have qp:=ga ey;obtain⟨n,hn⟩:∃n,min (psz p) (psz q)=n:=⟨_,rfl⟩;rw[hn];simp;refine R.kind aa (λh5 i3 d3 R=>?_);rw[<-ex,ee,ex]at R;rw[<-ex,ee,ex];simp[hdK];refine R.swap.kind aa (λh6 j3 e3 R=>?_);have R:=R.swap;rw[<-ey,ee,ey]at R;rw[<-ey,ee,ey];simp[hdK];have hc:jQ X Y=some (if q.kind=1 then [fJ p n]else if p.kind=1 then [fJ q n]else [],bX p n::x',bX q n::y'):=by simp[jQ,ex,ey,p3,q2,hn]
       obtain⟨mx,hmx⟩:∃m,d3+n=m:=⟨_,rfl⟩;obtain⟨my,hmy⟩:∃m,e3+n=m:=⟨_,rfl⟩;have ewx:Go.IntKind.i64.wrap ((d3:Int)+(n:Int))=(mx:Int):=JN;have ewy:Go.IntKind.i64.wrap ((e3:Int)+(n:Int))=(my:Int):=QB;have cxx:=R.cx.add (n:=n) aa;have cyy:=R.cy.add (n:=n) aa;rw[hmx]at cxx;rw[hmy]at cyy;have hf:=fin cxx cyy hc;have e5:=R.o 5000 ag ag ag;have e6:=R.o 5001 ag ag ag;have e7:=R.o 576 ag ag ag;have gx:=R.gx;have gy:=R.gy;by_cases p2:p.kind=2
       ·by_cases q1:q.kind=1
        ·simp only[q1,dA]at hf
         simp[p2,q1];refine R.take p2 (n:=n) aa (λh7 R=>?_);rw[hmx]at R;have e5:=R.o 5000 ag ag ag;have e6:=R.o 5001 ag ag ag;have e7:=R.o 576 ag ag ag;simp;rw[<-eO];refine xC (L:=BL) (P:=BP) (D:=BD) (Hl:=H) (Hp:=G) aa aI (by simp[e7,g7]) (by simp[e6,g6]) (λHp' h' k576 k5001 k5000 ko=>?_);have R:=R.rebase (h':=h') (ko 496 ag ag ag ag) (ko 544 ag ag ag ag);simp[R.gy,ewy];refine Ent.refl ⟨_,_,_,_,_,hf.1,hf.2,H,Hp',?_⟩;rw[fM,hBe];have hpk:(fJ p n).signs=p.signs.take n:=by simp[fJ,p2]
         simp[fb,p2,hpk,R.gx,k576,k5001,k5000,e5,g5]
        ·have p1:¬p.kind=1:=by omega
         simp only[q1,p1,dy]at hf;simp[p2,q1,gx,gy,ewx,ewy];refine Ent.refl ⟨_,_,_,_,_,hf.1,hf.2,H,G,?_⟩;simp[hBe,e5,e6,e7,g5,g6,g7]
       ·have p1:p.kind=1:=by omega
        by_cases q1:q.kind=1
        ·simp only[q1,dA]at hf
         simp[p2,q1];have f2:=ku (P:=BP) k3 k4 k5;have hpk:(fJ p n).n=n:=by simp[fJ,p2]
         refine ET (n:=(n:Int)) (L:=BL) (P:=BP) (D:=BD) (Hl:=H) (Hp:=G) aa aa aa aa (λq hq=>Dp) (by simp[e7,g7]) (by simp[e5,g5]) (by simp[e6,g6]) (λHl' h' k576 k5000 ko=>?_);have R:=R.rebase (h':=h') (ko 496 ag ag ag ag) (ko 544 ag ag ag ag);simp[R.gx,R.gy,ewx,ewy];refine Ent.kill 5001 (Ent.refl ⟨_,_,_,_,_,hf.1,hf.2,Hl',none,?_⟩);rw[fM,hBe];have n0:0<n:=aa;simp[fb,p1,hpk,n0,k576,k5000]
        ·simp only[q1,p1,dA,dy]at hf
         simp[p2,q1];have q3:q.kind=3:=aa;have hpk:(fJ q n).n=n:=by simp[fJ,q2]
         refine uW (n:=(n:Int)) (D:=BD) aa aa (e7.trans g7) (λh' k576 ko=>?_);have R:=R.rebase (h':=h') (ko 496 ag) (ko 544 ag);have h5:=ko 5000 ag;have h6:=ko 5001 ag;simp[R.gx,R.gy,ewx,ewy];refine Ent.refl ⟨_,_,_,_,_,hf.1,hf.2,H,G,?_⟩;rw[fM,hBe];simp[fb,q3,hpk,k576,h5,h6,e5,g5,e6,g6]
def aA(d:Doc):Int:=Go.IntKind.i64.wrap (d.fr+d.list.length)
def db(r:Rep):Prop:=(1<=r.client/\r.client<=8)/\(0<=r.seq/\r.seq<=999999999)/\(0<=r.rev/\r.rev<=999999999)/\el r.text/\cr r.sent/\cr r.buf/\bS r.sent=r.text.length/\bS r.buf=jt r.sent/\(if r.has then r.seq≠0 else qe r.sent)
theorem fU(r:Rep)(hl:cE r<=2^40):ar Tryz.prog 142 [.agg r.row] (.one (.c (vb (db r)) 1)):=by
 refine pci aq Tryz.func142 (λw0 base=>?_);unfold cE at hl;simp[Rep.row];intros;refine ae.pure (bW r.client 1 8) ab ?_;by_cases c1:1<=r.client/\r.client<=8
 rotate_left
 ·exact TU
 simp[c1];refine ae.pure (bW r.seq 0 999999999) ab ?_;by_cases c2:0<=r.seq/\r.seq<=999999999
 rotate_left
 ·exact TW
 simp[c2];refine ae.pure (bW r.rev 0 999999999) ab ?_;by_cases c3:0<=r.rev/\r.rev<=999999999
 rotate_left
 ·exact TX
 simp[c3];refine ae.pure (lF r.text aa) ab ?_;by_cases c4:el r.text
 rotate_left
 ·exact RH
 simp[c4];refine ae.pure (tM r.sent aa) ab ?_;by_cases c5:cr r.sent
 rotate_left
 ·exact RO
 simp[c5];refine ae.pure (tM r.buf aa) ab ?_;by_cases c6:cr r.buf
 rotate_left
 ·exact RU
 simp[c6];refine cg.quiet eok mix ai ?_;simp;refine⟨_,_,iA r.sent aa,ab,?_⟩;by_cases c7:bS r.sent=r.text.length
 rotate_left
 ·exact R0
 simp[c7];refine⟨_,_,iA r.buf aa,ab,?_⟩;simp;refine⟨_,_,tJ r.sent aa,ab,?_⟩;by_cases c8:bS r.buf=jt r.sent
 rotate_left
 ·exact Sd
 simp[c8]
 cases ch:r.has
 ·have e:dc (db r)=dc (qe r.sent):=sA ⟨λh=>Dj,λh=>⟨c1,c2,c3,c4,c5,c6,c7,c8,Di⟩⟩
  simp;refine ae.pure (yA r.sent aa) ab ?_;simp;exact e
 ·have e:dc (db r)=dc (r.seq≠0):=sA ⟨λh=>Dj,λh=>⟨c1,c2,c3,c4,c5,c6,c7,c8,Di⟩⟩
  simp[e];by_cases h0:r.seq=0<;>simp[h0]
theorem fT(r:Rep)(hl:cE r<=2^40):ar Tryz.prog 168 [.agg r.row] (.one (.c (vb (db r)) 1)):=by
 refine pci aq Tryz.func168 (λw0 base=>?_);unfold cE at hl;simp[Rep.row];intros;refine ae.pure (dH r.client 1 8) ab ?_;by_cases c1:1<=r.client/\r.client<=8
 rotate_left
 ·exact TU
 simp[c1];refine ae.pure (dH r.seq 0 999999999) ab ?_;by_cases c2:0<=r.seq/\r.seq<=999999999
 rotate_left
 ·exact TW
 simp[c2];refine ae.pure (dH r.rev 0 999999999) ab ?_;by_cases c3:0<=r.rev/\r.rev<=999999999
 rotate_left
 ·exact TX
 simp[c3];refine ae.pure (lA r.text aa) ab ?_;by_cases c4:el r.text
 rotate_left
 ·exact RH
 simp[c4];refine ae.pure (pD r.sent aa) ab ?_;by_cases c5:cr r.sent
 rotate_left
 ·exact RO
 simp[c5];refine ae.pure (pD r.buf aa) ab ?_;by_cases c6:cr r.buf
 rotate_left
 ·exact RU
 simp[c6];refine cg.quiet eok mix ai ?_;simp;refine⟨_,_,gB r.sent aa,ab,?_⟩;by_cases c7:bS r.sent=r.text.length
 rotate_left
 ·exact R0
 simp[c7];refine⟨_,_,gB r.buf aa,ab,?_⟩;simp;refine⟨_,_,s7 r.sent aa,ab,?_⟩;by_cases c8:bS r.buf=jt r.sent
 rotate_left
 ·exact Sd
 simp[c8]
 cases ch:r.has
 ·have e:dc (db r)=dc (qe r.sent):=sA ⟨λh=>Dj,λh=>⟨c1,c2,c3,c4,c5,c6,c7,c8,Di⟩⟩
  simp;refine ae.pure (ym r.sent aa) ab ?_;simp;exact e
 ·have e:dc (db r)=dc (r.seq≠0):=sA ⟨λh=>Dj,λh=>⟨c1,c2,c3,c4,c5,c6,c7,c8,Di⟩⟩
  simp[e];by_cases h0:r.seq=0
  ·simp[h0]
  ·have:0<r.seq:=by omega
   simp[h0,this]
def ik(r:Rep):Prop:=db r/\r.has=false/\qe r.buf
theorem FQ(r:Rep)(hl:cE r<=2^40):ar Tryz.prog 255 [.agg r.row] (.one (.c (vb (ik r)) 1)):=by
 refine pci aq Tryz.func255 (λw0 base=>?_);simp[Rep.row];intros;refine ae.pure (fU r hl) dB ?_;unfold cE at hl;by_cases c1:db r
 rotate_left
 ·simp[c1,ik]
 simp[c1]
 cases ch:r.has
 ·simp
  refine ae.pure (yA r.buf aa) ab ?_;simp[ik,c1,ch]
 ·simp[ch,ik]
theorem EP(r:Rep)(hl:cE r<=2^40):ar Tryz.prog 196 [.agg r.row] (.one (.c (vb (ik r)) 1)):=by
 refine pci aq Tryz.func196 (λw0 base=>?_);simp[Rep.row];intros;refine ae.pure (fT r hl) dB ?_;unfold cE at hl;by_cases c1:db r
 rotate_left
 ·simp[c1,ik]
 simp[c1]
 cases ch:r.has
 ·simp
  refine ae.pure (ym r.buf aa) ab ?_;simp[ik,c1,ch]
 ·simp[ch,ik]
theorem mz(l:List Int)(hl:l.length<=2^40):ar Tryz.prog 140 [.c (.s (l.map aN))] (.one (.c (.s (l.map aN)) 1)):=by
 refine pci aq Tryz.func140 (λw0 base=>?_);simp;omega
def Rep.zero:Rep:=⟨0,0,0,[],false,[],[]⟩
noncomputable def jW(c s v:Int)(t:List Int):Rep:=⟨c,s,v,t,false,dC t.length,dC t.length⟩
open Classical in
noncomputable def lY(r:Rep):Rep×Bool:=if db r then(r,true)else(Rep.zero,false)
noncomputable def fe(c s v:Int)(t:List Int):Rep×Bool:=lY (jW c s v t)
theorem pU(n:Int):nL aM (dC n)<=1:=by
 unfold dC
 split<;>simp[nL,dW,aM]
theorem AZ(c s v:Int)(t:List Int):cE (jW c s v t)<=t.length+2:=by
 have h:=pU t.length;unfold cE jW;exact gT
theorem Rep.zero_n:cE Rep.zero=0:=rfl
theorem zT(a0 a1 a2:Int)(a3:List Int)(n3:a3.length<=2^20) :
 ar Tryz.prog 129 [.c (vi a0),.c (vi a1),.c (vi a2),.c (.s (a3.map aN))] (.tup [.agg (fe a0 a1 a2 a3).1.res,.c (.v (.bool (fe a0 a1 a2 a3).2)) 1]):=by
 refine pci aq Tryz.func129 (λw0 base=>?_);simp;intro b8;refine ae.pure (mz a3 aa) ab ?_;simp;intro H1;refine ae.pure (l7 a3.length) ab ?_;simp;intro H2;refine ae.pure (l7 a3.length) ab ?_;simp;intro H3;refine inl aq Tryz.func236 20000 (λw1 F=>?_);simp;intros;have hn:=AZ a0 a1 a2 a3;refine ae.pure (fU (jW a0 a1 a2 a3) aa) (by simp[Rep.row,jW]) ?_;by_cases h:db (jW a0 a1 a2 a3)
 ·have e:fe a0 a1 a2 a3=(jW a0 a1 a2 a3,true):=by unfold fe lY;rw[al h]
  simp[h,e,Rep.res];simp[jW]
 ·have e:fe a0 a1 a2 a3=(Rep.zero,false):=by unfold fe lY;rw[ak h]
  have e2:dc (db (jW a0 a1 a2 a3))=false:=Dq;simp[e2,e,Rep.res,Rep.zero]
theorem zm(a0 a1 a2:Int)(a3:List Int)(n3:a3.length<=2^20) :
 ar Tryz.prog 84 [.c (vi a0),.c (vi a1),.c (vi a2),.c (.s (a3.map aN))] (.tup [.agg (fe a0 a1 a2 a3).1.res,.c (.v (.bool (fe a0 a1 a2 a3).2)) 1]):=by
 refine pci aq Tryz.func84 (λw0 base=>?_);simp;intro b8 b9;refine⟨aa,λH1=>?_⟩;refine ae.pure (lX a3.length) ab ?_;simp;intro H2;refine ae.pure (lX a3.length) ab ?_;simp;intro H3;refine inl aq Tryz.func189 20000 (λw1 F=>?_);simp;intros;have hn:=AZ a0 a1 a2 a3;refine ae.pure (fT (jW a0 a1 a2 a3) aa) (by simp[Rep.row,jW]) ?_;by_cases h:db (jW a0 a1 a2 a3)
 ·have e:fe a0 a1 a2 a3=(jW a0 a1 a2 a3,true):=by unfold fe lY;rw[al h]
  simp[h,e,Rep.res];simp[jW]
 ·have e:fe a0 a1 a2 a3=(Rep.zero,false):=by unfold fe lY;rw[ak h]
  have e2:dc (db (jW a0 a1 a2 a3))=false:=Dq;simp[e2,e,Rep.res,Rep.zero]
theorem Lc(a0:Int)(_:gR a0)(a1:Int)(_:gR a1)(a2:Int)(_:gR a2)(a3:List Int)(_:a3.length<=9223372036854775807/\∀n∈a3,gR n)(n3:a3.length<=2^20):ar Tryz.prog 129 [.c (vi a0),.c (vi a1),.c (vi a2),.c (.s (a3.map aN))] (.tup [.agg (fe a0 a1 a2 a3).1.res,.c (.v (.bool (fe a0 a1 a2 a3).2)) 1]):=zT a0 a1 a2 a3 n3
theorem Kz(a0:Int)(_:gR a0)(a1:Int)(_:gR a1)(a2:Int)(_:gR a2)(a3:List Int)(_:a3.length<=9223372036854775807/\∀n∈a3,gR n)(n3:a3.length<=2^20):ar Tryz.prog 84 [.c (vi a0),.c (vi a1),.c (vi a2),.c (.s (a3.map aN))] (.tup [.agg (fe a0 a1 a2 a3).1.res,.c (.v (.bool (fe a0 a1 a2 a3).2)) 1]):=zm a0 a1 a2 a3 n3
theorem lu{α β:Type}{f:α->β}{l:List α}{i:Nat}(h:i<l.length):List.take i (l.map f)++[f l[i]]=List.take (i+1) (l.map f):=by
 rw[List.take_add_one];simp[h]
theorem vT(o:List Part)(hl:nL aM o<=2^30):ar Tryz.prog 305 [.c (.s (o.map Part.row))] (.one (.c (.s (o.map Part.row)) 3)):=by
 refine pci aq Tryz.func305 (λw0 base=>?_);have hle:=bB hl;simp;refine aU.intro eok (λx:Nat×Hd=>x.1<=o.length) (λx=>⟨22,0,[(8,.v (.int .i64 x.1)),(7,.v (.int .i64 o.length)),(6,.ro (o.map Part.row)),(3,.sl 304 x.2 3 0 x.1)],[(304,.rows x.2 3 ((o.take x.1).map Part.row) true)]⟩) (λx=>o.length-x.1) (0,none) ab ab (λx hi=>?_);obtain⟨i,H⟩:=x;simp only at hi⊢;by_cases h:i<o.length
 ·have e:Go.IntKind.i64.wrap ((i:Int)+1)=((i+1:Nat):Int):=aZ aa
  have hm:min i o.length=i:=aa;have hs:=eA hl h;simp[h,Part.row];intro b5;refine ae.pure (mz o[i].signs (by unfold aM at hs;omega)) ab ?_;simp[hm];exact⟨aa,λH3=>⟨i+1,aa,aa,H3,⟨e,rfl,rfl⟩,rfl,lu (f:=Part.row) h⟩⟩
 ·have:i=o.length:=by omega
  subst this;simp[cut]
theorem pT(o:List Part)(hl:nL aM o<=2^30):ar Tryz.prog 191 [.c (.s (o.map Part.row))] (.one (.c (.s (o.map Part.row)) 3)):=by
 refine pci aq Tryz.func191 (λw0 base=>?_);have hle:=bB hl;simp;intro b;refine aU.intro eok (λx:Nat×Hd=>x.1<=o.length) (λx=>⟨27,0,[(9,.v (.int .i64 x.1)),(8,.v (.int .i64 o.length)),(7,.ro (o.map Part.row)),(3,.sl 96 x.2 3 0 x.1)],[(96,.rows x.2 3 ((o.take x.1).map Part.row) true)]⟩) (λx=>o.length-x.1) (0,some (b,0,0)) ab ab (λx hi=>?_);obtain⟨i,H⟩:=x;simp only at hi⊢;by_cases h:i<o.length
 ·have e:Go.IntKind.i64.wrap ((i:Int)+1)=((i+1:Nat):Int):=aZ aa
  have hm:min i o.length=i:=aa;have hs:=eA hl h;unfold aM at hs;simp[h,Part.row];intro b5;refine drw eok mix [0,1,2,3,4,6,7] [5,8,9,10,11,12] (.c 7 5 0 127 (.c 7 8 1 126 (.c 7 9 20 106 (.c 7 10 0 106 (.c 7 11 64 42 (.c 7 12 42 0 (.l 7 0) .s) .s) .s) .s) .s) .s) ?_;simp[hm];exact⟨aa,aa,λH3=>⟨i+1,aa,aa,H3,⟨e,rfl,rfl⟩,rfl,lu (f:=Part.row) h⟩⟩
 ·have:i=o.length:=by omega
  subst this;simp[cut]
def Call.zero:Call:=⟨0,⟨#[]⟩,0,0,0,[],[]⟩
def oS(r:Rep):Call:=⟨2,⟨#[]⟩,r.client,r.seq,r.rev,r.sent,[]⟩
theorem EH(r:Rep)(hl:cE r<=2^30):ar Tryz.prog 240 [.agg r.row] (.one (.agg (oS r).res)):=by
 refine pci aq Tryz.func240 (λw0 base=>?_);unfold cE at hl;simp[Rep.row];intros;refine drw eok mix [0,1,2,3,4,5,6,7] [8,9,10] (.c 8 8 1 254 (.c 8 9 84 170 (.c 8 10 170 0 (.l 8 0) .s) .s) .s) ?_;simp;refine ae.pure (vT r.sent aa) ab ?_;simp[oS,Call.res]
theorem IV(r:Rep)(hl:cE r<=2^30):ar Tryz.prog 194 [.agg r.row] (.one (.agg (oS r).res)):=by
 refine pci aq Tryz.func194 (λw0 base=>?_);unfold cE at hl;simp[Rep.row];intros;refine drw eok mix [0,1,2,3,4,5,6,7] [8,9,10] (.c 8 8 1 254 (.c 8 9 84 170 (.c 8 10 170 0 (.l 8 0) .s) .s) .s) ?_;simp;refine ae.pure (pT r.sent aa) ab ?_;simp[oS,Call.res]
def oX(t:List Int)(s:List Int×Int)(p:Part):List Int×Int:=
 if p.kind=1 then(s.1++(t.drop s.2.toNat).take p.n.toNat,s.2+p.n)else if p.kind=2 then(s.1++p.signs,s.2)else(s.1,s.2+p.n)
def jy(o:List Part)(t:List Int):List Int×Int:=o.foldl (oX t) ([],0)
theorem xn{o:List Part}{t:List Int}{i:Nat}(h:i<o.length):jy (o.take (i+1)) t=oX t (jy (o.take i) t) o[i]:=by
 unfold jy;exact wA
def iE(o:List Part)(t:List Int):Prop:=cz o/\el t/\bS o=t.length
open Classical in
noncomputable def apply(o:List Part)(t:List Int):List Int×Bool:=if iE o t then((jy o t).1,true)else([],false)
theorem oQ{o:List Part}{t:List Int}(ho:∀p∈o,aY p):∀(i:Nat),i<=o.length->(jy (o.take i) t).2=dF fK (o.take i)+dF fD (o.take i)/\(jy (o.take i) t).1.length<=200*i
 |0,_=>by simp[jy,dF]
 | i + 1, hi => by
   have hlt:i<o.length:=aa;obtain⟨h1,h2⟩:=oQ ho i aa;have hb:=(ho _ (ao hlt)).bounds;rw[xn hlt,gg hlt,gg hlt];generalize jy (o.take i) t=s at h1 h2;obtain⟨L,a⟩:=s;simp only at h1 h2;generalize dF fK (o.take i)=x1 at h1⊢;generalize dF fD (o.take i)=x2 at h1⊢;unfold oX fK fD;exact S4
theorem lv{f:Part->Int}(hf:∀p,aY p->0<=f p):∀{o:List Part}(_:∀p∈o,aY p) (i:Nat),dF f (o.take i)<=dF f o
 | [],_,i=>ab
 | p :: o, ho, 0 => by
   have h1:=hf p (ho p (aP ..));have h2:=lv hf (o:=o) (λq hq=>ho q (aG _ hq)) 0;simp only[List.take_zero,dF]at h2⊢;omega
 | p :: o, ho, i + 1 => by
   have h2:=lv hf (o:=o) (λq hq=>ho q (aG _ hq)) i;simp only[lg,dF];omega
theorem sD{o:List Part}{t:List Int}(h:iE o t){i:Nat}(hi:i<o.length):0<=(jy (o.take i) t).2/\(o[i].kind≠2->(jy (o.take i) t).2+o[i].n<=t.length)/\(jy (o.take i) t).2<=t.length:=by
 have ho:=h.1.1.1;have h1:=(oQ (t:=t) ho i aa).1;have hf:bS o=dF fK o+dF fD o:=by unfold bS ec;rw[al h.1.1]
 have h2:=lv (λp hp=>(PL hp).1) ho (i+1);have h3:=lv (λp hp=>(PP hp).1) ho (i+1);have h4:=gn (f:=fK) (λp h=>PL h) (pA ho i);have h5:=gn (f:=fD) (λp h=>PP h) (pA ho i);have h6:=gg (f:=fK) hi;have h7:=gg (f:=fD) hi;have h8:=h.2.2;exact UD
theorem mD(o:List Part)(t:List Int)(hl:nL aM o<=2^40)(ht:t.length<=2^40):ar Tryz.prog 254 [.c (.s (o.map Part.row)),.c (.s (t.map aN))] (.tup [.c (.s ((apply o t).1.map aN)) 1,.c (.v (.bool (apply o t).2)) 1]):=by
 refine pci aq Tryz.func254 (λw0 base=>?_);simp;have no:¬iE o t->apply o t=([],false):=λh=>by unfold apply;rw[ak h]
 refine ae.pure (ep o hl) ab ?_;by_cases c1:cz o
 rotate_left
 ·exact J9
 simp[c1];refine ae.pure (lF t ht) ab ?_;by_cases c2:el t
 rotate_left
 ·have e:dc (el t)=false:=by rw[eK];exact c2
  simp[e,no (λh=>c2 h.2.1)]
 simp[c2];refine ae.pure (iA o hl) ab ?_;by_cases c3:bS o=t.length
 rotate_left
 ·simp[c3,no (λh=>c3 h.2.2)]
 have hf:iE o t:=⟨c1,c2,c3⟩;have e:apply o t=((jy o t).1,true):=by unfold apply;rw[al hf]
 have ho:=c1.1.1;have hlen:=c1.1.2;simp[c3,e];refine aU.intro eok (λx:Nat×Hd=>x.1<=o.length) (λx=>⟨60,0,[(27,.v (.int .i64 x.1)),(26,.v (.int .i64 o.length)),(25,.ro (o.map Part.row)),(7,.v (.int .i64 (jy (o.take x.1) t).2)),(6,.sl 752 x.2 1 0 (jy (o.take x.1) t).1.length),(1,.ro (t.map aN))],[(752,.rows x.2 1 ((jy (o.take x.1) t).1.map aN) true)]⟩) (λx=>o.length-x.1) (0,none) ab (by simp[jy]) (λx hi=>?_);obtain⟨i,H⟩:=x;simp only at hi⊢;by_cases h:i<o.length
 ·have hin:=sD hf h
  have hat:=oQ (t:=t) ho i hi;have hb:=(ho _ (ao h)).bounds;have hs:=xn (t:=t) h;generalize jy (o.take i) t=s at hin hat hs;obtain⟨L,a⟩:=s;simp only at hin hat hs;obtain⟨a',rfl⟩:∃a':Nat,a=a':=⟨a.toNat,aa⟩;obtain⟨n,hn⟩:∃n:Nat,o[i].n=n:=⟨o[i].n.toNat,aa⟩;have e:Go.IntKind.i64.wrap ((i:Int)+1)=((i+1:Nat):Int):=aZ aa;have ea:Go.IntKind.i64.wrap ((a':Int)+n)=(a':Int)+n:=ah _ aa;rw[hn]at hin;simp[h,Part.row];intro b9;by_cases k1:o[i].kind=1
  ·exact UU
  ·by_cases k3:o[i].kind=3
   ·have hst:oX t (L,(a':Int)) o[i]=(L,(a':Int)+n):=by simp[oX,k3,hn]
    rw[hst]at hs;simp[k3,hn,ea];refine⟨i+1,aa,aa,H,?_⟩;rw[hs];simp[e]
   ·have k2:o[i].kind=2:=by omega
    exact QN
 ·exact DR
theorem IX(o:List Part)(t:List Int)(hl:nL aM o<=2^40)(ht:t.length<=2^40):ar Tryz.prog 298 [.c (.s (o.map Part.row)),.c (.s (t.map aN))] (.one (.c (vb (iE o t)) 1)):=by
 refine pci aq Tryz.func298 (λw0 base=>?_);simp;refine ae.pure (eo o hl) ab ?_;by_cases c1:cz o
 rotate_left
 ·simp[c1,iE]
 simp[c1];refine ae.pure (lA t ht) ab ?_;by_cases c2:el t
 rotate_left
 ·simp[c2,iE]
 simp[c2];refine ae.pure (gB o hl) ab ?_;simp[iE,c1,c2]
theorem kT(o:List Part)(t:List Int)(hl:nL aM o<=2^40)(ht:t.length<=2^40):ar Tryz.prog 275 [.c (.s (o.map Part.row)),.c (.s (t.map aN))] (.tup [.c (.s ((apply o t).1.map aN)) 1,.c (.v (.bool (apply o t).2)) 1]):=by
 refine pci aq Tryz.func275 (λw0 base=>?_);simp;refine ae.pure (IX o t hl ht) ab ?_;by_cases hf:iE o t
 rotate_left
 ·have e:dc (iE o t)=false:=by rw[eK];exact hf
  have e2:apply o t=([],false):=by unfold apply;rw[ak hf]
  simp[e,e2]
 have e:apply o t=((jy o t).1,true):=by unfold apply;rw[al hf]
 have ho:=hf.1.1.1;have hlen:=hf.1.1.2;simp[hf,e];intro b;refine aU.intro eok (λx:Nat×Hd=>x.1<=o.length) (λx=>⟨50,0,[(17,.v (.int .i64 x.1)),(16,.v (.int .i64 o.length)),(15,.ro (o.map Part.row)),(7,.v (.int .i64 (jy (o.take x.1) t).2)),(6,.sl 224 x.2 1 0 (jy (o.take x.1) t).1.length),(1,.ro (t.map aN))],[(224,.rows x.2 1 ((jy (o.take x.1) t).1.map aN) true)]⟩) (λx=>o.length-x.1) (0,some (b,0,0)) ab (by simp[jy]) (λx hi=>?_);obtain⟨i,H⟩:=x;simp only at hi⊢;by_cases h:i<o.length
 ·have hin:=sD hf h
  have hat:=oQ (t:=t) ho i hi;have hb:=(ho _ (ao h)).bounds;have hs:=xn (t:=t) h;generalize jy (o.take i) t=s at hin hat hs;obtain⟨L,a⟩:=s;simp only at hin hat hs;obtain⟨a',rfl⟩:∃a':Nat,a=a':=⟨a.toNat,aa⟩;obtain⟨n,hn⟩:∃n:Nat,o[i].n=n:=⟨o[i].n.toNat,aa⟩;have e:Go.IntKind.i64.wrap ((i:Int)+1)=((i+1:Nat):Int):=aZ aa;have ea:Go.IntKind.i64.wrap ((a':Int)+n)=(a':Int)+n:=ah _ aa;rw[hn]at hin;simp[h,Part.row];intro b9;by_cases k1:o[i].kind=1
  ·exact UU
  ·by_cases k2:o[i].kind=2
   ·exact QN
   ·have k3:o[i].kind=3:=by omega
    have hst:oX t (L,(a':Int)) o[i]=(L,(a':Int)+n):=by simp[oX,k3,hn]
    rw[hst]at hs;simp[k1,k2,hn,ea];refine⟨i+1,aa,aa,H,?_⟩;rw[hs];simp[e]
 ·exact DR
theorem lM(o:List Part)(t:List Int):(apply o t).1.length<=2^17:=by
 unfold apply
 split
 ·rename_i h
  have h1:=(oQ (t:=t) h.1.1.1 o.length aa).2;rw[dn]at h1;have:=h.1.1.2;exact mS
 ·simp
abbrev hJ(o:List Part):List CD:=[.s (o.map Part.row)]
open Classical in
noncomputable def bj:List (List Part)->List Int->Option (List Int)
 | [],t=>some t
 |o::l,t=>if(apply o t).2=true then bj l (apply o t).1 else none
open Classical in
noncomputable def et(l:List (List Part))(t:List Int):List Int×Bool:=
 if el t then match bj l t with
  |some u=>(u,true)
  |none=>([],false)
 else([],false)
theorem nq{l:List (List Part)}{i:Nat}{u:List Int}(h:i<l.length):bj (l.drop i) u=if(apply l[i] u).2=true then bj (l.drop (i+1)) (apply l[i] u).1 else none:=by
 rw[bk h,bj]
theorem qd(l:List (List Part))(t:List Int)(hl:l.length<=2^30)(hs:∀o∈l,nL aM o<=2^40)(ht:t.length<=2^40):ar Tryz.prog 143 [.c (.s (l.map hJ)),.c (.s (t.map aN))] (.tup [.c (.s ((et l t).1.map aN)) 1,.c (.v (.bool (et l t).2)) 1]):=by
 refine pci aq Tryz.func143 (λw0 base=>?_);simp;refine ae.pure (lF t ht) ab ?_;by_cases c2:el t
 rotate_left
 ·have e:dc (el t)=false:=by rw[eK];exact c2
  have e2:et l t=([],false):=by unfold et;rw[ak c2]
  simp[e,e2]
 obtain⟨r,hr⟩:∃r,et l t=r:=⟨_,rfl⟩;have hr':(match bj l t with|some u=>(u,true)|none=>([],false))=r:=by rw[<-hr];unfold et;rw[al c2]
 rw[hr];simp[c2];refine ae.pure (mz t ht) ab ?_;simp;intro H0
 refine aU.intro eok (λx:Nat×Nat×Hd×List Int=>x.1<=l.length/\x.2.2.2.length<=2^40/\(match bj (l.drop x.1) x.2.2.2 with|some u=>(u,true)|none=>([],false))=r)
  (λx=>⟨33,0,[(18,.v (.int .i64 x.1)),(17,.v (.int .i64 l.length)),(16,.ro (l.map hJ)),(6,.sl x.2.1 x.2.2.1 1 0 x.2.2.2.length)],[(x.2.1,.rows x.2.2.1 1 (x.2.2.2.map aN) true)]⟩) (λx=>l.length-x.1) (0,240,H0,t) (by simp[ht,hr']) ab (λx hi=>?_)
 obtain⟨i,K,H,u⟩:=x;simp only at hi⊢;obtain⟨hi1,hi2,hi3⟩:=hi;by_cases h:i<l.length
 ·have e:Go.IntKind.i64.wrap ((i:Int)+1)=((i+1:Nat):Int):=aZ aa
  rw[nq h]at hi3;have hlen:=lM l[i] u;simp[h];refine ae.pure (mD l[i] u (hs _ (ao h)) hi2) ab ?_;generalize apply l[i] u=q at hi3 hlen;obtain⟨v,ok⟩:=q;simp only at hi3 hlen
  cases ok
  ·simp at hi3
   simp[<-hi3]
  ·simp at hi3
   simp;intro H2;exact⟨i+1,400,H2,v,⟨aa,aa,hi3⟩,aa,⟨e,rfl,rfl,rfl⟩,.inl rfl⟩
 ·have hd:l.drop i=[]:=bE aa
  rw[hd]at hi3;simp[bj]at hi3;simp[h,<-hi3]
end Go.Proofs.YtdeimojjhhdeaaaGreatDoor
