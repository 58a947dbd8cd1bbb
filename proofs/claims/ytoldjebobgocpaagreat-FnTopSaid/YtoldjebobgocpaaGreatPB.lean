import Derived.Test.YtoldjebobgocpaaGreatPA
import Derived.Test.YtoldjebobgocpaaGreatMF
import Derived.Test.YtoldjebobgocpaaGreatNA
namespace Go.Proofs.YtoldjebobgocpaaGreat
open Go.AM
set_option maxRecDepth 20000
theorem I0 (s:List Int) {n:Nat} (_h:n<=s.length):cut (s.map ak) 0 n=(s.take n).map ak:=by
 unfold cut
 split
 ·rename_i h2
  rw [List.take_of_length_le (by simp at h2;omega)]
 ·simp [List.map_take]
theorem I1 (s:List Int) {n:Nat}:cut (s.map ak) n (s.length - n)=(s.drop n).map ak:=by
 unfold cut
 split
 ·rename_i h2
  rw [h2.1];simp
 ·rw [List.take_of_length_le (by simp),List.map_drop]
theorem v6 {w0:World} {bF bG:Nat->Prop} {bl:Bool} {st:ASt} {dst:Option Nat} {K:ASt->Prop} {kx b n:Nat} {p:Part} {l:List Part} (hk:kx<15000) (hp:ar p) (hn:n<=psz p) (hl:l.length<=2 ^ 20)
 (g:st.h.get kx=.vars b 324 [.ro ((p::l).map Part.row)])
 (hK:∀ h',AH.get h' kx=.vars b 324 [.ro ((bn p n::l).map Part.row)]->(∀ q,q≠kx->q<15000->AH.get h' q=st.h.get q)->aW ⟨st.n,st.kb,st.t,h'⟩ dst (hdV [fd p n]) K) :
 aa ⟨Tryz.prog,tt,w0,⟨bF,bG,bl,λ_=>True⟩⟩ 329 [.p kx b 0,.v (.int .i64 n)] st dst K:=by
 refine v4 ae Tryz.func329 (by kernel_rfl) rfl rfl rfl (Nat.le_of_ble_eq_true rfl) 20000 (λw1 F=>?_);have hps:=fw hp;have hb:=hp.bounds;have k0:¬ kx=20064:=by omega
 have k1:¬ kx=20080:=by omega
 have k2:¬ kx=20096:=by omega
 have k3:¬ kx=20112:=by omega
 have k4:¬ kx=20608:=by omega
 have j0:¬ 20064=kx:=by omega
 have j1:¬ 20080=kx:=by omega
 have j2:¬ 20096=kx:=by omega
 have j3:¬ 20112=kx:=by omega
 have j4:¬ 20608=kx:=by omega
 simp [g,Part.row,k0];intro b4 b5
 refine am.cut (λx:Nat×Nat=>⟨48,20000,[(0,.p kx b 0),(1,.v (.int .i64 n)),(4,.p 20064 b4 0),(5,.p 20080 b5 0),(6,.p 20096 x.1 0),(7,.p 20112 x.2 0)],
  (20096,.vars x.1 291 [.v (.int .i64 p.kind),.v (.int .i64 p.n),.ro (p.signs.map ak)])::(20112,.vars x.2 291 [.v (.int .i64 p.kind),.v (.int .i64 p.n),.ro (p.signs.map ak)])::(20080,.vars b5 291 [.v (.int .i64 p.kind),.v (.int .i64 p.n),.ro (p.signs.map ak)])::(20064,.vars b4 291 [.v (.int .i64 0),.v (.int .i64 0),.nil])::st.h⟩) ?_ ?_
 ·refine drw eok mix [0,1] [2,3,4,5] (.c 2 2 0 3 (.c 2 3 0 3 (.c 2 4 2 1 (.c 2 5 1 0 (.l 2 0) .s) .s) .s) (.c 2 3 0 3 (.c 2 2 0 3 (.c 2 4 2 1 (.c 2 5 1 0 (.l 2 0) .s) .s) .s) .s)) ?_
  simp;rw [Trc];refine ⟨?_,?_⟩<;>simp
 rintro ⟨b6,b7⟩
 simp;by_cases hk2:p.kind=2
 ·simp [hk2]
  refine drw eok mix [0,1,2,3,4,5,6,7,8,10] [9,11] (.c 10 9 962 61 (.c 10 11 61 0 (.l 10 0) .s) .s) ?_;have hns:n<=p.signs.length:=by have:=hb.2.2.2.2.1 hk2;omega
  simp [hns];refine drw eok mix [0,1,3,4,5,6,7,9,10] [2,8,11] (.c 9 2 128 383 (.c 9 8 4 379 (.c 9 11 377 2 (.l 9 2) .s) .s) .s) ?_
  have ct:cut ([vi p.kind,vi p.n,CD.s (p.signs.map ak)]::l.map Part.row) 1 l.length=l.map Part.row:=by
   simp [cut];exact List.take_of_length_le (by simp)
  have hv:hdV [fd p n]=.agg [.v (.int .i64 2),.v (.int .i64 p.n),.ro ((p.signs.map ak).take n)]:=by simp [hdV,fd,hk2,List.map_take]
  rw [hv] at hK;simp [g,Part.row,k0,k1,k2,k3,k4,j0,j3,ct,I0 p.signs hns,I1 p.signs];intro b8;refine ⟨by omega,λH=>⟨_,Bk (kx:=kx) (b:=b) (T:=324) (cells:=[.sl 20608 H 3 0 (1+l.length)]) (j:=0) (k:=20608) (sz:=3) (off:=0) (len:=1+l.length) (H:=H) (rows:=(bn p n).row::l.map Part.row) (own:=false) ?_ rfl ?_ (by simp;omega),?_⟩⟩
  ·simp [k0]
  ·simp [j4,Part.row,bn,hk2]
  ·refine hK _ ?_ (λq q1 q2=>?_)
   ·simp [cut,Nat.add_comm]
   ·repeat (first|exact rfl|refine (cK (by omega)).trans ?_)
 ·simp [hk2]
  refine drw eok mix [0,1,2,3,4,5,7] [6,8] (.c 7 6 66 61 (.c 7 8 61 0 (.l 7 0) .s) .s) ?_;have e:Go.IntKind.i64.wrap (p.n - (n:Int))=p.n - n:=Go.IntWalk.i64_in _ (by omega);simp [e];refine drw eok mix [0,1,3,4,5,6,7,9,10] [2,8,11] (.c 9 2 128 383 (.c 9 8 4 379 (.c 9 11 377 2 (.l 9 2) .s) .s) .s) ?_
  have ct:cut ([vi p.kind,vi p.n,CD.s (p.signs.map ak)]::l.map Part.row) 1 l.length=l.map Part.row:=by
   simp [cut];exact List.take_of_length_le (by simp)
  have hv:hdV [fd p n]=.agg [.v (.int .i64 p.kind),.v (.int .i64 n),.ro (p.signs.map ak)]:=by simp [hdV,fd,hk2]
  rw [hv] at hK;simp [g,Part.row,k0,k1,k2,k3,k4,j0,j3,ct];intro b8;refine ⟨by omega,λH=>⟨_,Bk (kx:=kx) (b:=b) (T:=324) (cells:=[.sl 20608 H 3 0 (1+l.length)]) (j:=0) (k:=20608) (sz:=3) (off:=0) (len:=1+l.length) (H:=H) (rows:=(bn p n).row::l.map Part.row) (own:=false) ?_ rfl ?_ (by simp;omega),?_⟩⟩
  ·simp [k0]
  ·simp [j4,Part.row,bn,hk2]
  ·refine hK _ ?_ (λq q1 q2=>?_)
   ·simp [cut,Nat.add_comm]
   ·repeat (first|exact rfl|refine (cK (by omega)).trans ?_)
theorem Bn {w0:World} {bF bG:Nat->Prop} {bl:Bool} {st:ASt} {dst:Option Nat} {K:ASt->Prop} {kx b:Nat} {p:Part} {l:List Part} (hk:kx<14000) (hp:ar p) (hl:l.length<=2 ^ 20)
 (g:st.h.get kx=.vars b 324 [.ro ((p::l).map Part.row)])
 (hK:∀ h',AH.get h' kx=.vars b 324 [.ro ((bn p (psz p)::l).map Part.row)]->(∀ q,q≠kx->q<14000->AH.get h' q=st.h.get q)->aW ⟨st.n,st.kb,st.t,h'⟩ dst (hdV [p]) K) :
 aa ⟨Tryz.prog,tt,w0,⟨bF,bG,bl,λ_=>True⟩⟩ 327 [.p kx b 0] st dst K:=by
 refine inl ae Tryz.func327 14000 (λw1 F=>?_);have k0:¬ kx=14032:=by omega
 have j0:¬ 14032=kx:=by omega
 simp [g,Part.row,k0];intro b2;refine aa.pure (l8 p hp) (by simp [Part.row]) ?_;simp;refine v6 (n:=psz p) (by omega) hp (Nat.le_refl _) hl (by simp [k0,g]) (λh' g1 g2=>?_);have e:=g2 14032 j0 (by omega);simp at e;simp [hdV,e];rw [dS hp];refine hK _ (by simp [g1,k0]) (λq q1 q2=>?_);have hq:¬ q=14032:=by omega
 simp [hq,g2 q q1 (by omega)]
structure RS (kx ky bx by_:Nat) (h0 h:AH) (X Y:List Part):Prop where
 ne:kx≠ky
 lx:kx<14000 - 16
 ly:ky<14000 - 16
 gx:AH.get h kx=.vars bx 324 [.ro (X.map Part.row)]
 gy:AH.get h ky=.vars by_ 324 [.ro (Y.map Part.row)]
 o:∀ q,q≠kx->q≠ky->q<14000->AH.get h q=AH.get h0 q
theorem RS.swap {kx ky bx by_:Nat} {h0 h:AH} {X Y:List Part} (R:RS kx ky bx by_ h0 h X Y):RS ky kx by_ bx h0 h Y X:=⟨R.ne.symm,R.ly,R.lx,R.gy,R.gx,λq h1 h2=>R.o q h2 h1⟩
section
variable {w0:World} {bF bG:Nat->Prop} {bl:Bool} {st:ASt} {dst:Option Nat} {K:ASt->Prop} {kx ky bx by_:Nat} {h0:AH} {X Y:List Part}
theorem RS.next (R:RS kx ky bx by_ h0 st.h X Y) (hs:∀ p∈X,ar p) (hK:∀ h',RS kx ky bx by_ h0 h' (nxt X) Y->aW ⟨st.n,st.kb,st.t,h'⟩ dst (hdV (nxt X)) K) :
 aa ⟨Tryz.prog,tt,w0,⟨bF,bG,bl,λ_=>True⟩⟩ 326 [.p kx bx 0] st dst K:=by
 have:=R.lx;have:=R.ly;refine EA (l:=X) (kb:=20000) (by omega) hs R.gx (λh1 g1 o1=>hK h1 ⟨R.ne,R.lx,R.ly,g1,by rw [o1 ky R.ne.symm (by omega)];exact R.gy,λq q1 q2 q3=>by rw [o1 q q1 (by omega)];exact R.o q q1 q2 q3⟩)
theorem RS.take {p:Part} {l:List Part} {n:Nat} (R:RS kx ky bx by_ h0 st.h (p::l) Y) (hp:ar p) (hn:n<=psz p) (hl:l.length<=2 ^ 20) (hK:∀ h',RS kx ky bx by_ h0 h' (bn p n::l) Y->aW ⟨st.n,st.kb,st.t,h'⟩ dst (hdV [fd p n]) K) :
 aa ⟨Tryz.prog,tt,w0,⟨bF,bG,bl,λ_=>True⟩⟩ 329 [.p kx bx 0,.v (.int .i64 n)] st dst K:=by
 have:=R.lx;have:=R.ly;refine v6 (by omega) hp hn hl R.gx (λh1 g1 o1=>hK h1 ⟨R.ne,R.lx,R.ly,g1,by rw [o1 ky R.ne.symm (by omega)];exact R.gy,λq q1 q2 q3=>by rw [o1 q q1 (by omega)];exact R.o q q1 q2 q3⟩)
theorem RS.whole {p:Part} {l:List Part} (R:RS kx ky bx by_ h0 st.h (p::l) Y) (hp:ar p) (hl:l.length<=2 ^ 20) (hK:∀ h',RS kx ky bx by_ h0 h' (bn p (psz p)::l) Y->aW ⟨st.n,st.kb,st.t,h'⟩ dst (hdV [p]) K) :
 aa ⟨Tryz.prog,tt,w0,⟨bF,bG,bl,λ_=>True⟩⟩ 327 [.p kx bx 0] st dst K:=by
 have:=R.lx;have:=R.ly;refine Bn (by omega) hp hl R.gx (λh1 g1 o1=>hK h1 ⟨R.ne,R.lx,R.ly,g1,by rw [o1 ky R.ne.symm (by omega)];exact R.gy,λq q1 q2 q3=>by rw [o1 q q1 (by omega)];exact R.o q q1 q2 q3⟩)
end
theorem yp:hdV []=.agg [.v (.int .i64 0),.v (.int .i64 0),.nil]:=rfl
theorem er {p:Part} {l:List Part}:hdV (p::l)=.agg [.v (.int .i64 p.kind),.v (.int .i64 p.n),.ro (p.signs.map ak)]:=rfl
open Go.AM
set_option maxRecDepth 20000
set_option maxHeartbeats 1600000
theorem wP (p:Part) (h:ar p):ai Tryz.prog 407 [.agg p.row] (.one (.c (vi (psz p)) 1)):=by
 refine pci ae Tryz.func407 (λw0 base=>?_);have hp:=fw h;have hb:=h.bounds;rw [hp.1];simp [Part.row];by_cases hk:p.kind=2
 ·have:=hb.2.2.2.2.1 hk
  simp [hk,this]
 ·have:=hb.2.2.2.2.2 hk
  simp [hk,this]
structure Cu (a:List Part) (i d:Nat) (X:List Part):Prop where
 ok:∀ p∈a,ar p
 le:i<=a.length
 v:∀ h:i<a.length,d<=psz a[i]
 z:i=a.length->d=0
 c:cur a i d=X
def hdK:List Part->Int
 | []=>0
 |p::_=>p.kind
structure CR (kx ky bx by_:Nat) (h0 h:AH) (a b:List Part) (i d j e:Nat) (X Y:List Part):Prop where
 ne:kx≠ky
 lx:kx<14000 - 16
 ly:ky<14000 - 16
 gx:AH.get h kx=.vars bx 360 [.ro (a.map Part.row),.v (.int .i64 i),.v (.int .i64 d)]
 gy:AH.get h ky=.vars by_ 360 [.ro (b.map Part.row),.v (.int .i64 j),.v (.int .i64 e)]
 o:∀ q,q≠kx->q≠ky->q<14000->AH.get h q=AH.get h0 q
 cx:Cu a i d X
 cy:Cu b j e Y
theorem CR.swap {kx ky bx by_:Nat} {h0 h:AH} {a b:List Part} {i d j e:Nat} {X Y:List Part} (R:CR kx ky bx by_ h0 h a b i d j e X Y):CR ky kx by_ bx h0 h b a j e i d Y X:=⟨R.ne.symm,R.ly,R.lx,R.gy,R.gx,λq h1 h2=>R.o q h2 h1,R.cy,R.cx⟩
theorem Cu.bnd {a:List Part} {i d:Nat} {X:List Part} (h:Cu a i d X):d<=200:=by
 by_cases hlt:i<a.length
 ·have:=h.v hlt
  have:=(fw (h.ok _ (List.getElem_mem hlt))).2;omega
 ·have:=h.z (by have:=h.le;omega)
  omega
theorem EU {w0:World} {bF bG:Nat->Prop} {bl:Bool} {st:ASt} {dst:Option Nat} {K:ASt->Prop} {kx b i d:Nat} {a X:List Part} (_hk:kx<14000) (hl:a.length<=2 ^ 20) (cx:Cu a i d X)
 (g:st.h.get kx=.vars b 360 [.ro (a.map Part.row),.v (.int .i64 i),.v (.int .i64 d)])
 (hK:∀ h' i' d',Cu a i' d' (nxt X)->AH.get h' kx=.vars b 360 [.ro (a.map Part.row),.v (.int .i64 i'),.v (.int .i64 d')]->(∀ q,q≠kx->q<20000->AH.get h' q=st.h.get q)->aW ⟨st.n,st.kb,st.t,h'⟩ dst (.v (.int .i64 (hdK (nxt X)))) K) :
 aa ⟨Tryz.prog,tt,w0,⟨bF,bG,bl,λ_=>True⟩⟩ 391 [.p kx b 0] st dst K:=by
 refine inl ae Tryz.func391 20000 (λw1 F=>?_);simp;refine qK eok (λx:Nat×Nat=>Cu a x.1 x.2 (cur a x.1 x.2)/\nxt (cur a x.1 x.2)=nxt X) (λx=>⟨62,20000,[(0,.p kx b 0),(2,.v (.int .i64 0))],(kx,.vars b 360 [.ro (a.map Part.row),.v (.int .i64 x.1),.v (.int .i64 x.2)])::st.h⟩) (λx=>a.length - x.1) (i,d) ⟨⟨cx.ok,cx.le,cx.v,cx.z,rfl⟩,by rw [cx.c]⟩ (by simp [g]) (λx hx=>?_);obtain ⟨i,d⟩:=x;obtain ⟨hc,hn⟩:=hx;have hcl:=hc.le;have hb:=hc.bnd;simp only at hc hn hcl ⊢;simp;by_cases hlt:i<a.length
 ·have hp:=hc.ok _ (List.getElem_mem hlt)
  have hd:=hc.v hlt;have hps:=fw hp;refine am.quiet eok mix (by kernel_rfl) ?_;simp [hlt];refine ⟨_,_,wP a[i] hp,by simp [Part.row],?_⟩;by_cases he:d=psz a[i]
  ·have e1:Go.IntKind.i64.wrap ((i:Int)+1)=((i+1:Nat):Int):=ah (by omega)
   simp [he,e1];refine ⟨i+1,0,⟨⟨hc.ok,by omega,λ_=>by omega,λ_=>rfl,rfl⟩,?_⟩,by omega,by omega,rfl⟩;rw [<- hn,he,I3 hc.ok hlt]
  ·have he2:¬ (d:Int)=psz a[i]:=by omega
   have hne:¬ i=a.length:=by omega
   simp [he2];refine am.quiet eok mix (by kernel_rfl) ?_;have hne2:¬ (i:Int)=a.length:=by omega
   simp [hne2];refine am.quiet eok mix (by kernel_rfl) ?_;simp [hlt,Part.row];have hs:=I2 hc.ok hlt (show d<psz a[i] by omega);rw [hs] at hn;have hk2:hdK (nxt X)=a[i].kind:=by rw [<- hn,uM hlt];simp [hdK]
   rw [hk2] at hK;refine hK _ i d ⟨hc.ok,hc.le,hc.v,hc.z,hn⟩ (by simp) (λq q1 q2=>by simp [q1])
 ·have hi:i=a.length:=by omega
  have hd:=hc.z hi;refine am.quiet eok mix (by kernel_rfl) ?_;simp [hlt];refine am.quiet eok mix (by kernel_rfl) ?_;simp [hi];have hn2:nxt X=[]:=by rw [<- hn,yN (by omega)];rfl
  rw [hn2] at hK;refine hK _ i d ⟨hc.ok,hc.le,hc.v,hc.z,yN (by omega)⟩ (by simp [hi]) (λq q1 q2=>by simp [q1])
theorem Cu.head {a:List Part} {i d:Nat} {p:Part} {l:List Part} (h:Cu a i d (p::l)):∃ hi:i<a.length,p=bn a[i] d/\l=a.drop (i+1)/\psz p=psz a[i] - d/\d<=psz a[i]/\p.kind=a[i].kind/\ar p:=by
 have hi:i<a.length:=by
  have:=h.le;rcases Nat.lt_or_ge i a.length with h1|h1
  ·exact h1
  ·have:=h.c
   rw [yN h1] at this
   cases this
 have hc:=h.c;rw [uM hi] at hc
 cases hc
 have hp:=h.ok _ (List.getElem_mem hi);exact ⟨hi,rfl,rfl,jb hp (h.v hi),h.v hi,by simp,zQ hp (h.v hi)⟩
theorem Cu.add {a:List Part} {i d n:Nat} {p:Part} {l:List Part} (h:Cu a i d (p::l)) (hn:n<=psz p):Cu a i (d+n) (bn p n::l):=by
 obtain ⟨hi,h1,h2,h3,h4,-,-⟩:=h.head;exact ⟨h.ok,h.le,λ_=>by omega,λhe=>by omega,(I4 hi h.c).symm⟩
theorem EJ {w0:World} {bF bG:Nat->Prop} {bl:Bool} {st:ASt} {dst:Option Nat} {K:ASt->Prop} {kx b i d:Nat} {a l:List Part} {p:Part} (cx:Cu a i d (p::l))
 (g:st.h.get kx=.vars b 360 [.ro (a.map Part.row),.v (.int .i64 i),.v (.int .i64 d)])
 (hK:aW st dst (.v (.int .i64 (psz p))) K) :
 aa ⟨Tryz.prog,tt,w0,⟨bF,bG,bl,λ_=>True⟩⟩ 392 [.p kx b 0] st dst K:=by
 refine inl ae Tryz.func392 20000 (λw1 F=>?_);obtain ⟨hi,h1,h2,h3,h4,-,-⟩:=cx.head;have hp:=cx.ok _ (List.getElem_mem hi);have hps:=fw hp;simp;refine am.quiet eok mix (by kernel_rfl) ?_;simp [g,hi];refine ⟨_,_,wP a[i] hp,by simp [Part.row],?_⟩;have e:Go.IntKind.i64.wrap ((psz a[i]:Int) - (d:Int))=(psz p:Int):=by rw [Go.IntWalk.i64_in _ (by omega)];omega
 simp [e];exact hK
theorem yO {w0:World} {bF bG:Nat->Prop} {bl:Bool} {st:ASt} {dst:Option Nat} {K:ASt->Prop} {kx b i d n:Nat} {a l:List Part} {p:Part} (_hk:kx<14000) (cx:Cu a i d (p::l)) (hk2:p.kind=2) (hn:n<=psz p)
 (g:st.h.get kx=.vars b 360 [.ro (a.map Part.row),.v (.int .i64 i),.v (.int .i64 d)])
 (hK:∀ h',Cu a i (d+n) (bn p n::l)->AH.get h' kx=.vars b 360 [.ro (a.map Part.row),.v (.int .i64 i),.v (.int .i64 ((d+n:Nat):Int))]->(∀ q,q≠kx->q<20000->AH.get h' q=st.h.get q)->aW ⟨st.n,st.kb,st.t,h'⟩ dst (.ro ((p.signs.take n).map ak)) K) :
 aa ⟨Tryz.prog,tt,w0,⟨bF,bG,bl,λ_=>True⟩⟩ 395 [.p kx b 0,.v (.int .i64 n)] st dst K:=by
 refine inl ae Tryz.func395 20000 (λw1 F=>?_);obtain ⟨hi,h1,h2,h3,h4,h5,-⟩:=cx.head;have hp:=cx.ok _ (List.getElem_mem hi);have hps:=fw hp;have hkk:a[i].kind=2:=by rw [<- h5];exact hk2
 have hn0:=hp.bounds.2.2.2.2.1 hkk;have hsz:psz a[i]=a[i].signs.length:=by omega
 have hs:p.signs=a[i].signs.drop d:=by rw [h1];simp [bn,hkk]
 have e:Go.IntKind.i64.wrap ((d:Int)+(n:Int))=((d+n:Nat):Int):=by rw [Go.IntWalk.i64_in _ (by omega)];omega
 have hle:d+n<=a[i].signs.length:=by omega
 have hv:cut (a[i].signs.map ak) d n=(p.signs.take n).map ak:=by
  unfold cut
  split
  ·rename_i hh
   rw [hs,hh.1];simp at hh;simp [hh.2]
  ·rw [hs,List.map_take,List.map_drop]
 obtain ⟨m,hm⟩:∃ m,d+n=m:=⟨_,rfl⟩;have e2:m - d=n:=by omega
 have hadd:=cx.add hn;rw [hm] at e hle hK hadd;simp;refine am.quiet eok mix (by kernel_rfl) ?_;simp [g,hi,Part.row,e,e2,hv];simp only [List.map_take] at hK;refine ⟨hle,by omega,hK _ hadd ?_ (λq q1 q2=>?_)⟩
 ·simp
 ·simp [q1]
theorem Il (x y:Nat):ai Tryz.prog 396 [.c (vi x),.c (vi y)] (.one (.c (vi ((min x y:Nat):Int)) 1)):=by
 refine pci ae Tryz.func396 (λw0 base=>?_);simp;by_cases h:x<y
 ·have:min x y=x:=by omega
  simp [h,this]
 ·have:min x y=y:=by omega
  simp [h,this]
section
variable {w0:World} {bF bG:Nat->Prop} {bl:Bool} {st:ASt} {dst:Option Nat} {K:ASt->Prop} {kx ky bx by_ i d j e:Nat} {h0:AH} {a b X Y:List Part}
theorem CR.kind (R:CR kx ky bx by_ h0 st.h a b i d j e X Y) (hl:a.length<=2 ^ 20) (hK:∀ h' i' d',CR kx ky bx by_ h0 h' a b i' d' j e (nxt X) Y->aW ⟨st.n,st.kb,st.t,h'⟩ dst (.v (.int .i64 (hdK (nxt X)))) K) :
 aa ⟨Tryz.prog,tt,w0,⟨bF,bG,bl,λ_=>True⟩⟩ 391 [.p kx bx 0] st dst K:=by
 have:=R.lx;have:=R.ly;refine EU (by omega) hl R.cx R.gx (λh1 i1 d1 c1 g1 o1=>hK h1 i1 d1 ⟨R.ne,R.lx,R.ly,g1,by rw [o1 ky R.ne.symm (by omega)];exact R.gy,λq q1 q2 q3=>by rw [o1 q q1 (by omega)];exact R.o q q1 q2 q3,c1,R.cy⟩)
theorem CR.left {p:Part} {l:List Part} (R:CR kx ky bx by_ h0 st.h a b i d j e (p::l) Y) (hK:aW st dst (.v (.int .i64 (psz p))) K) :
 aa ⟨Tryz.prog,tt,w0,⟨bF,bG,bl,λ_=>True⟩⟩ 392 [.p kx bx 0] st dst K:=EJ R.cx R.gx hK
theorem CR.take {p:Part} {l:List Part} {n:Nat} (R:CR kx ky bx by_ h0 st.h a b i d j e (p::l) Y) (hk2:p.kind=2) (hn:n<=psz p) (hK:∀ h',CR kx ky bx by_ h0 h' a b i (d+n) j e (bn p n::l) Y->aW ⟨st.n,st.kb,st.t,h'⟩ dst (.ro ((p.signs.take n).map ak)) K) :
 aa ⟨Tryz.prog,tt,w0,⟨bF,bG,bl,λ_=>True⟩⟩ 395 [.p kx bx 0,.v (.int .i64 n)] st dst K:=by
 have:=R.lx;have:=R.ly;refine yO (by omega) R.cx hk2 hn R.gx (λh1 c1 g1 o1=>hK h1 ⟨R.ne,R.lx,R.ly,g1,by rw [o1 ky R.ne.symm (by omega)];exact R.gy,λq q1 q2 q3=>by rw [o1 q q1 (by omega)];exact R.o q q1 q2 q3,c1,R.cy⟩)
theorem CR.rebase (R:CR kx ky bx by_ h0 st.h a b i d j e X Y) {h':AH} (hx:AH.get h' kx=AH.get st.h kx) (hy:AH.get h' ky=AH.get st.h ky):CR kx ky bx by_ h' h' a b i d j e X Y:=
 ⟨R.ne,R.lx,R.ly,hx.trans R.gx,hy.trans R.gy,λ_ _ _ _=>rfl,R.cx,R.cy⟩
theorem CR.done {p:Part} {l:List Part} {n:Nat} (R:CR kx ky bx by_ h0 st.h a b i d j e (p::l) Y) (hn:n<=psz p):CR kx ky bx by_ ((kx,.vars bx 360 [.ro (a.map Part.row),.v (.int .i64 i),.v (.int .i64 ((d+n:Nat):Int))])::st.h) ((kx,.vars bx 360 [.ro (a.map Part.row),.v (.int .i64 i),.v (.int .i64 ((d+n:Nat):Int))])::st.h) a b i (d+n) j e (bn p n::l) Y:=
 ⟨R.ne,R.lx,R.ly,by simp,by rw [aK,if_neg R.ne.symm];exact R.gy,λ_ _ _ _=>rfl,R.cx.add hn,R.cy⟩
end
open Go.AM
set_option maxRecDepth 20000
set_option maxHeartbeats 1600000
theorem eC (L:List Part) (p:Part):be (L++[p])=dF (be L) p:=by simp [be,List.foldl_append]
theorem wJ {L:List Part} (h:∀ p∈L,ar p):NbOk L.length (be L):=by
 have:=lz h L.length (Nat.le_refl _)
 rwa [List.take_length] at this
def ac (d:Doc):Int:=Go.IntKind.i64.wrap (d.fr+d.list.length)
theorem fT (l:List Int) (hl:l.length<=2 ^ 40):ai Tryz.prog 172 [.c (.s (l.map ak))] (.one (.c (.s (l.map ak)) 1)):=by
 refine pci ae Tryz.func172 (λw0 base=>?_);simp;omega
def Rep.zero:Rep:=⟨0,0,0,[],false,[],[]⟩
theorem Rep.zero_n:Rk Rep.zero=0:=rfl
theorem da {α β:Type} {f:α->β} {l:List α} {i:Nat} (h:i<l.length):List.take i (l.map f)++[f l[i]]=List.take (i+1) (l.map f):=by
 rw [List.take_add_one];simp [h]
theorem uO (o:List Part) (hl:nL aH o<=2 ^ 30):ai Tryz.prog 217 [.c (.s (o.map Part.row))] (.one (.c (.s (o.map Part.row)) 3)):=by
 refine pci ae Tryz.func217 (λw0 base=>?_);have hle:=aB hl;simp;refine aq.intro eok (λx:Nat×Hd=>x.1<=o.length) (λx=>⟨22,0,[(8,.v (.int .i64 x.1)),(7,.v (.int .i64 o.length)),(6,.ro (o.map Part.row)),(3,.sl 304 x.2 3 0 x.1)],[(304,.rows x.2 3 ((o.take x.1).map Part.row) true)]⟩) (λx=>o.length - x.1) (0,none) (by simp) (by simp) (λx hi=>?_);obtain ⟨i,H⟩:=x;simp only at hi ⊢;by_cases h:i<o.length
 ·have e:Go.IntKind.i64.wrap ((i:Int)+1)=((i+1:Nat):Int):=ah (by omega)
  have hm:min i o.length=i:=by omega
  have hs:=dO hl h;simp [h,Part.row];intro b5;refine aa.pure (fT o[i].signs (by unfold aH at hs;omega)) (by simp) ?_;simp [hm];exact ⟨by omega,λH3=>⟨i+1,by omega,by omega,H3,⟨e,rfl,rfl⟩,rfl,da (f:=Part.row) h⟩⟩
 ·have:i=o.length:=by omega
  subst this;simp [cut]
theorem re (o:List Part) (hl:nL aH o<=2 ^ 30):ai Tryz.prog 308 [.c (.s (o.map Part.row))] (.one (.c (.s (o.map Part.row)) 3)):=by
 refine pci ae Tryz.func308 (λw0 base=>?_);have hle:=aB hl;simp;intro b;refine aq.intro eok (λx:Nat×Hd=>x.1<=o.length) (λx=>⟨27,0,[(9,.v (.int .i64 x.1)),(8,.v (.int .i64 o.length)),(7,.ro (o.map Part.row)),(3,.sl 96 x.2 3 0 x.1)],[(96,.rows x.2 3 ((o.take x.1).map Part.row) true)]⟩) (λx=>o.length - x.1) (0,some (b,0,0)) (by simp) (by simp) (λx hi=>?_);obtain ⟨i,H⟩:=x;simp only at hi ⊢;by_cases h:i<o.length
 ·have e:Go.IntKind.i64.wrap ((i:Int)+1)=((i+1:Nat):Int):=ah (by omega)
  have hm:min i o.length=i:=by omega
  have hs:=dO hl h;unfold aH at hs;simp [h,Part.row];intro b5;refine drw eok mix [0,1,2,3,4,6,7] [5,8,9,10,11,12] (.c 7 5 0 127 (.c 7 8 1 126 (.c 7 9 20 106 (.c 7 10 0 106 (.c 7 11 64 42 (.c 7 12 42 0 (.l 7 0) .s) .s) .s) .s) .s) .s) ?_;simp [hm];exact ⟨by omega,by omega,λH3=>⟨i+1,by omega,by omega,H3,⟨e,rfl,rfl⟩,rfl,da (f:=Part.row) h⟩⟩
 ·have:i=o.length:=by omega
  subst this;simp [cut]
def Call.zero:Call:=⟨0,⟨#[]⟩,0,0,0,[],[]⟩
def TJ (r:Rep):Call:=⟨2,⟨#[]⟩,r.client,r.seq,r.rev,r.sent,[]⟩
theorem Call.zero_n:dv Call.zero=0:=rfl
def gl (t:List Int) (s:List Int×Int) (p:Part):List Int×Int:=
 if p.kind=1 then (s.1++(t.drop s.2.toNat).take p.n.toNat,s.2+p.n) else if p.kind=2 then (s.1++p.signs,s.2) else (s.1,s.2+p.n)
def eH (o:List Part) (t:List Int):List Int×Int:=o.foldl (gl t) ([],0)
theorem oi {o:List Part} {t:List Int} {i:Nat} (h:i<o.length):eH (o.take (i+1)) t=gl t (eH (o.take i) t) o[i]:=by
 unfold eH;rw [<- List.take_append_getElem h,List.foldl_append];rfl
def jg (o:List Part) (t:List Int):Prop:=bR o/\cO t/\bH o=t.length
open Classical in
noncomputable def apply (o:List Part) (t:List Int):List Int×Bool:=if jg o t then ((eH o t).1,true) else ([],false)
theorem nw {o:List Part} {t:List Int} (ho:∀ p∈o,ar p):∀ (i:Nat),i<=o.length->(eH (o.take i) t).2=cI fK (o.take i)+cI fD (o.take i)/\(eH (o.take i) t).1.length<=200*i
 |0,_=>by simp [eH,cI]
 | i + 1, hi => by
   have hlt:i<o.length:=by omega
   obtain ⟨h1,h2⟩:=nw ho i (by omega);have hb:=(ho _ (List.getElem_mem hlt)).bounds;rw [oi hlt,gn hlt,gn hlt];generalize eH (o.take i) t=s at h1 h2;obtain ⟨L,a⟩:=s;simp only at h1 h2;generalize cI fK (o.take i)=x1 at h1 ⊢;generalize cI fD (o.take i)=x2 at h1 ⊢;unfold gl fK fD;by_cases k1:o[i].kind=1
   ·simp [k1]
    omega
   ·by_cases k2:o[i].kind=2
    ·simp [k2];omega
    ·simp [k1,k2];omega
theorem jy {f:Part->Int} (hf:∀ p,ar p->0<=f p):∀ {o:List Part} (_:∀ p∈o,ar p) (i:Nat),cI f (o.take i)<=cI f o
 | [],_,i=>by simp
 | p :: o, ho, 0 => by
   have h1:=hf p (ho p (List.mem_cons_self ..));have h2:=jy hf (o:=o) (λq hq=>ho q (List.mem_cons_of_mem _ hq)) 0;simp only [List.take_zero,cI] at h2 ⊢;omega
 | p :: o, ho, i + 1 => by
   have h2:=jy hf (o:=o) (λq hq=>ho q (List.mem_cons_of_mem _ hq)) i;simp only [List.take_succ_cons,cI];omega
theorem uZ {o:List Part} {t:List Int} (h:jg o t) {i:Nat} (hi:i<o.length):0<=(eH (o.take i) t).2/\(o[i].kind≠2->(eH (o.take i) t).2+o[i].n<=t.length)/\(eH (o.take i) t).2<=t.length:=by
 have ho:=h.1.1.1;have h1:=(nw (t:=t) ho i (by omega)).1;have hf:bH o=cI fK o+cI fD o:=by unfold bH cP;rw [if_pos h.1.1]
 have h2:=jy (λp hp=>(IS hp).1) ho (i+1);have h3:=jy (λp hp=>(IV hp).1) ho (i+1);have h4:=ez (f:=fK) (λp h=>IS h) (nG ho i);have h5:=ez (f:=fD) (λp h=>IV h) (nG ho i);have h6:=gn (f:=fK) hi;have h7:=gn (f:=fD) hi;have h8:=h.2.2;have hb:=(ho _ (List.getElem_mem hi)).bounds;have k1:=IS (ho _ (List.getElem_mem hi));have k2:=IV (ho _ (List.getElem_mem hi));refine ⟨by omega,λhk=>?_,by omega⟩
 have:fK o[i]+fD o[i]=o[i].n:=by
  unfold fK fD;by_cases c1:o[i].kind=1
  ·simp [c1]
  ·simp [c1,hk]
 omega
theorem kD (o:List Part) (t:List Int) (hl:nL aH o<=2 ^ 40) (ht:t.length<=2 ^ 40):ai Tryz.prog 254 [.c (.s (o.map Part.row)),.c (.s (t.map ak))] (.tup [.c (.s ((apply o t).1.map ak)) 1,.c (.v (.bool (apply o t).2)) 1]):=by
 refine pci ae Tryz.func254 (λw0 base=>?_);simp;have no:¬ jg o t->apply o t=([],false):=λh=>by unfold apply;rw [if_neg h]
 refine aa.pure (eE o hl) (by simp) ?_;by_cases c1:bR o
 rotate_left
 ·have e:dc (bR o)=false:=by rw [cj];exact c1
  simp [e,no (λh=>c1 h.1)]
 simp [c1];refine aa.pure (il t ht) (by simp) ?_;by_cases c2:cO t
 rotate_left
 ·have e:dc (cO t)=false:=by rw [cj];exact c2
  simp [e,no (λh=>c2 h.2.1)]
 simp [c2];refine aa.pure (im o hl) (by simp) ?_;by_cases c3:bH o=t.length
 rotate_left
 ·simp [c3,no (λh=>c3 h.2.2)]
 have hf:jg o t:=⟨c1,c2,c3⟩;have e:apply o t=((eH o t).1,true):=by unfold apply;rw [if_pos hf]
 have ho:=c1.1.1;have hlen:=c1.1.2;simp [c3,e];refine aq.intro eok (λx:Nat×Hd=>x.1<=o.length) (λx=>⟨60,0,[(27,.v (.int .i64 x.1)),(26,.v (.int .i64 o.length)),(25,.ro (o.map Part.row)),(7,.v (.int .i64 (eH (o.take x.1) t).2)),(6,.sl 752 x.2 1 0 (eH (o.take x.1) t).1.length),(1,.ro (t.map ak))],[(752,.rows x.2 1 ((eH (o.take x.1) t).1.map ak) true)]⟩) (λx=>o.length - x.1) (0,none) (by simp) (by simp [eH]) (λx hi=>?_);obtain ⟨i,H⟩:=x;simp only at hi ⊢;by_cases h:i<o.length
 ·have hin:=uZ hf h
  have hat:=nw (t:=t) ho i hi;have hb:=(ho _ (List.getElem_mem h)).bounds;have hs:=oi (t:=t) h;generalize eH (o.take i) t=s at hin hat hs;obtain ⟨L,a⟩:=s;simp only at hin hat hs;obtain ⟨a',rfl⟩:∃ a':Nat,a=a':=⟨a.toNat,by omega⟩;obtain ⟨n,hn⟩:∃ n:Nat,o[i].n=n:=⟨o[i].n.toNat,by omega⟩;have e:Go.IntKind.i64.wrap ((i:Int)+1)=((i+1:Nat):Int):=ah (by omega);have ea:Go.IntKind.i64.wrap ((a':Int)+n)=(a':Int)+n:=Go.IntWalk.i64_in _ (by omega);rw [hn] at hin;simp [h,Part.row];intro b9;by_cases k1:o[i].kind=1
  ·have hle:a'+n<=t.length:=by have:=hin.2.1 (by omega);omega
   have hst:gl t (L,(a':Int)) o[i]=(L++(t.drop a').take n,(a':Int)+n):=by simp [gl,k1,hn]
   rw [hst] at hs;obtain ⟨m,hm⟩:∃ m,(t.drop a').take n=m:=⟨_,rfl⟩;have hcut:cut (t.map ak) a' n=m.map ak:=by rw [cQ,<- hm];simp
   have hlen2:m.length=n:=by rw [<- hm];simp;omega
   rw [hm] at hs;simp [k1,hn,ea,hle,hcut];refine ⟨by omega,λH2=>⟨i+1,by omega,by omega,H2,?_⟩⟩;rw [hs];simp [e]
  ·by_cases k3:o[i].kind=3
   ·have hst:gl t (L,(a':Int)) o[i]=(L,(a':Int)+n):=by simp [gl,k3,hn]
    rw [hst] at hs;simp [k3,hn,ea];refine ⟨i+1,by omega,by omega,H,?_⟩;rw [hs];simp [e]
   ·have k2:o[i].kind=2:=by omega
    have hst:gl t (L,(a':Int)) o[i]=(L++o[i].signs,(a':Int)):=by simp [gl,k2]
    rw [hst] at hs;simp [k2];refine ⟨by omega,λH2=>⟨i+1,by omega,by omega,H2,?_⟩⟩;rw [hs];simp [e]
 ·have he:o.take i=o:=List.take_of_length_le (by omega)
  rw [he];simp [h]
theorem ES (o:List Part) (t:List Int) (hl:nL aH o<=2 ^ 40) (ht:t.length<=2 ^ 40):ai Tryz.prog 352 [.c (.s (o.map Part.row)),.c (.s (t.map ak))] (.one (.c (vb (jg o t)) 1)):=by
 refine pci ae Tryz.func352 (λw0 base=>?_);simp;refine aa.pure (eA o hl) (by simp) ?_;by_cases c1:bR o
 rotate_left
 ·simp [c1,jg]
 simp [c1];refine aa.pure (jz t ht) (by simp) ?_;by_cases c2:cO t
 rotate_left
 ·simp [c2,jg]
 simp [c2];refine aa.pure (hU o hl) (by simp) ?_;simp [jg,c1,c2]
theorem fI (o:List Part) (t:List Int) (hl:nL aH o<=2 ^ 40) (ht:t.length<=2 ^ 40):ai Tryz.prog 283 [.c (.s (o.map Part.row)),.c (.s (t.map ak))] (.tup [.c (.s ((apply o t).1.map ak)) 1,.c (.v (.bool (apply o t).2)) 1]):=by
 refine pci ae Tryz.func283 (λw0 base=>?_);simp;refine aa.pure (ES o t hl ht) (by simp) ?_;by_cases hf:jg o t
 rotate_left
 ·have e:dc (jg o t)=false:=by rw [cj];exact hf
  have e2:apply o t=([],false):=by unfold apply;rw [if_neg hf]
  simp [e,e2]
 have e:apply o t=((eH o t).1,true):=by unfold apply;rw [if_pos hf]
 have ho:=hf.1.1.1;have hlen:=hf.1.1.2;simp [hf,e];intro b;refine aq.intro eok (λx:Nat×Hd=>x.1<=o.length) (λx=>⟨50,0,[(17,.v (.int .i64 x.1)),(16,.v (.int .i64 o.length)),(15,.ro (o.map Part.row)),(7,.v (.int .i64 (eH (o.take x.1) t).2)),(6,.sl 224 x.2 1 0 (eH (o.take x.1) t).1.length),(1,.ro (t.map ak))],[(224,.rows x.2 1 ((eH (o.take x.1) t).1.map ak) true)]⟩) (λx=>o.length - x.1) (0,some (b,0,0)) (by simp) (by simp [eH]) (λx hi=>?_);obtain ⟨i,H⟩:=x;simp only at hi ⊢;by_cases h:i<o.length
 ·have hin:=uZ hf h
  have hat:=nw (t:=t) ho i hi;have hb:=(ho _ (List.getElem_mem h)).bounds;have hs:=oi (t:=t) h;generalize eH (o.take i) t=s at hin hat hs;obtain ⟨L,a⟩:=s;simp only at hin hat hs;obtain ⟨a',rfl⟩:∃ a':Nat,a=a':=⟨a.toNat,by omega⟩;obtain ⟨n,hn⟩:∃ n:Nat,o[i].n=n:=⟨o[i].n.toNat,by omega⟩;have e:Go.IntKind.i64.wrap ((i:Int)+1)=((i+1:Nat):Int):=ah (by omega);have ea:Go.IntKind.i64.wrap ((a':Int)+n)=(a':Int)+n:=Go.IntWalk.i64_in _ (by omega);rw [hn] at hin;simp [h,Part.row];intro b9;by_cases k1:o[i].kind=1
  ·have hle:a'+n<=t.length:=by have:=hin.2.1 (by omega);omega
   have hst:gl t (L,(a':Int)) o[i]=(L++(t.drop a').take n,(a':Int)+n):=by simp [gl,k1,hn]
   rw [hst] at hs;obtain ⟨m,hm⟩:∃ m,(t.drop a').take n=m:=⟨_,rfl⟩;have hcut:cut (t.map ak) a' n=m.map ak:=by rw [cQ,<- hm];simp
   have hlen2:m.length=n:=by rw [<- hm];simp;omega
   rw [hm] at hs;simp [k1,hn,ea,hle,hcut];refine ⟨by omega,λH2=>⟨i+1,by omega,by omega,H2,?_⟩⟩;rw [hs];simp [e]
  ·by_cases k2:o[i].kind=2
   ·have hst:gl t (L,(a':Int)) o[i]=(L++o[i].signs,(a':Int)):=by simp [gl,k2]
    rw [hst] at hs;simp [k2];refine ⟨by omega,λH2=>⟨i+1,by omega,by omega,H2,?_⟩⟩;rw [hs];simp [e]
   ·have k3:o[i].kind=3:=by omega
    have hst:gl t (L,(a':Int)) o[i]=(L,(a':Int)+n):=by simp [gl,k3,hn]
    rw [hst] at hs;simp [k1,k2,hn,ea];refine ⟨i+1,by omega,by omega,H,?_⟩;rw [hs];simp [e]
 ·have he:o.take i=o:=List.take_of_length_le (by omega)
  rw [he];simp [h]
theorem oh (o:List Part) (t:List Int):(apply o t).1.length<=2 ^ 17:=by
 unfold apply
 split
 ·rename_i h
  have h1:=(nw (t:=t) h.1.1.1 o.length (by omega)).2;rw [List.take_length] at h1;have:=h.1.1.2;simp only;omega
 ·simp
abbrev eZ (o:List Part):List CD:=[.s (o.map Part.row)]
open Classical in
noncomputable def aA:List (List Part)->List Int->Option (List Int)
 | [],t=>some t
 |o::l,t=>if (apply o t).2=true then aA l (apply o t).1 else none
open Classical in
noncomputable def dy (l:List (List Part)) (t:List Int):List Int×Bool:=
 if cO t then match aA l t with
  |some u=>(u,true)
  |none=>([],false)
 else ([],false)
theorem kn {l:List (List Part)} {i:Nat} {u:List Int} (h:i<l.length):aA (l.drop i) u=if (apply l[i] u).2=true then aA (l.drop (i+1)) (apply l[i] u).1 else none:=by
 rw [List.drop_eq_getElem_cons h,aA]
theorem m9 (l:List (List Part)) (t:List Int) (hl:l.length<=2 ^ 30) (hs:∀ o∈l,nL aH o<=2 ^ 40) (ht:t.length<=2 ^ 40):ai Tryz.prog 154 [.c (.s (l.map eZ)),.c (.s (t.map ak))] (.tup [.c (.s ((dy l t).1.map ak)) 1,.c (.v (.bool (dy l t).2)) 1]):=by
 refine pci ae Tryz.func154 (λw0 base=>?_);simp;refine aa.pure (il t ht) (by simp) ?_;by_cases c2:cO t
 rotate_left
 ·have e:dc (cO t)=false:=by rw [cj];exact c2
  have e2:dy l t=([],false):=by unfold dy;rw [if_neg c2]
  simp [e,e2]
 obtain ⟨r,hr⟩:∃ r,dy l t=r:=⟨_,rfl⟩;have hr':(match aA l t with|some u=>(u,true)|none=>([],false))=r:=by rw [<- hr];unfold dy;rw [if_pos c2]
 rw [hr];simp [c2];refine aa.pure (fT t ht) (by simp) ?_;simp;intro H0
 refine aq.intro eok (λx:Nat×Nat×Hd×List Int=>x.1<=l.length/\x.2.2.2.length<=2 ^ 40/\(match aA (l.drop x.1) x.2.2.2 with|some u=>(u,true)|none=>([],false))=r)
  (λx=>⟨33,0,[(18,.v (.int .i64 x.1)),(17,.v (.int .i64 l.length)),(16,.ro (l.map eZ)),(6,.sl x.2.1 x.2.2.1 1 0 x.2.2.2.length)],[(x.2.1,.rows x.2.2.1 1 (x.2.2.2.map ak) true)]⟩) (λx=>l.length - x.1) (0,240,H0,t) (by simp [ht,hr']) (by simp) (λx hi=>?_)
 obtain ⟨i,K,H,u⟩:=x;simp only at hi ⊢;obtain ⟨hi1,hi2,hi3⟩:=hi;by_cases h:i<l.length
 ·have e:Go.IntKind.i64.wrap ((i:Int)+1)=((i+1:Nat):Int):=ah (by omega)
  rw [kn h] at hi3;have hlen:=oh l[i] u;simp [h];refine aa.pure (kD l[i] u (hs _ (List.getElem_mem h)) hi2) (by simp) ?_;generalize apply l[i] u=q at hi3 hlen;obtain ⟨v,ok⟩:=q;simp only at hi3 hlen
  cases ok
  ·simp at hi3
   simp [<- hi3]
  ·simp at hi3
   simp;intro H2;exact ⟨i+1,400,H2,v,⟨by omega,by omega,hi3⟩,by omega,⟨e,rfl,rfl,rfl⟩,.inl rfl⟩
 ·have hd:l.drop i=[]:=List.drop_eq_nil_of_le (by omega)
  rw [hd] at hi3;simp [aA] at hi3;simp [h,<- hi3]
theorem xk {o:List Part} {t:List Int} (h:jg o t):∀ (i:Nat),i<=o.length->((eH (o.take i) t).1.length:Int)=cI fK (o.take i)+cI fP (o.take i)/\ed (eH (o.take i) t).1
 |0,_=>by simp [eH,cI,ed]
 | i + 1, hi => by
   have hlt:i<o.length:=by omega
   obtain ⟨h1,h2⟩:=xk h i (by omega);have hin:=uZ h hlt;have hpo:=h.1.1.1 _ (List.getElem_mem hlt);have hb:=hpo.bounds;rw [oi hlt,gn hlt,gn hlt];generalize eH (o.take i) t=s at h1 h2 hin;generalize o[i]=p at hin hpo hb;unfold gl;rw [show fK p=(if p.kind=1 then p.n else 0) from rfl,show fP p=(if p.kind=2 then (p.signs.length:Int) else 0) from rfl];rcases hb.1 with k|k|k
   ·have:=hin.2.1 (by omega)
    have e:((t.drop s.2.toNat).take p.n.toNat).length=p.n.toNat:=by simp;omega
    refine ⟨?_,?_⟩
    ·simp only [k,if_true,List.length_append,e]
     have k2:¬ (1:Int)=2:=by decide
     simp only [k2,if_false];omega
    simp only [k,if_true];intro n hn;rcases List.mem_append.1 hn with hn|hn
    ·exact h2 n hn
    ·exact h.2.1.2 n (List.mem_of_mem_drop (List.mem_of_mem_take hn))
   ·refine ⟨by simp [k];omega,?_⟩
    have k1:¬ p.kind=1:=by omega
    simp only [k,if_true];rw [gC k] at hpo;intro n hn;rcases List.mem_append.1 hn with hn|hn
    ·exact h2 n hn
    ·exact hpo.2.2 n hn
   ·exact ⟨by simp [k];omega,by simpa [k] using h2⟩
theorem jO {o:List Part} {t:List Int} (h:jg o t):cO (apply o t).1/\((apply o t).1.length:Int)=kt o:=by
 have h1:=xk h o.length (Nat.le_refl _);rw [List.take_length] at h1;have e:apply o t=((eH o t).1,true):=by unfold apply;rw [if_pos h]
 have ht:kt o=cI fK o+cI fP o:=by unfold kt cP;rw [if_pos h.1.1]
 have h3:=h.1.2.2;rw [e];refine ⟨⟨by simp only;omega,h1.2⟩,by simp only;omega⟩
theorem jR {o:List Part} {t:List Int}:(apply o t).2=true ↔ jg o t:=by
 unfold apply
 split<;>simp_all
def fq (s:ByteArray):Prop:=(1<=s.size/\s.size<=8)/\∀ (i:Nat) (h:i<s.size),97<=s[i].toNat/\s[i].toNat<=122
def br (e:Entry):Prop:=(1<=e.client/\e.client<=8)/\(1<=e.seq/\e.seq<=1000000000)/\gD e.o
def pK (d:Doc):Prop:=∀ (i:Nat) (h:i<d.seen.length),(1<=d.seen[i].client/\d.seen[i].client<=8)/\(1<=d.seen[i].seq/\d.seen[i].seq<=1000000000)/\(1<=d.seen[i].rev/\d.seen[i].rev<=ac d)/\(∀ h0:0<i,d.seen[i - 1].client<d.seen[i].client)
def aN (d:Doc):Prop:=fq d.name/\(0<=d.fr/\d.fr<=999999000)/\cO d.text/\d.list.length<=8/\(∀ e∈d.list,br e)/\(aA (d.list.map Entry.o) d.text).isSome=true/\pK d
open Classical in
noncomputable def d5 (d:Doc) (rev:Int):List Int×Bool:=if aN d/\d.fr<=rev/\rev<=ac d then dy ((d.list.take (rev - d.fr).toNat).map Entry.o) d.text else ([],false)
noncomputable def cY (d:Doc):List Int:=(d5 d (ac d)).1
open Classical in
noncomputable def cm (d:Doc) (c:Int):Seen×Bool:=match d.seen.find? (λs=>decide (s.client=c)) with
 |some s=>(s,true)
 |none=>(⟨0,0,0⟩,false)
theorem xS {o:List Part} (h:bR o):nL aH o<=2 ^ 18:=by
 have:=Ac h.1.1;have:=h.1.2;omega
theorem fk {a b:List Part} (h:¬ (bR a/\bR b/\bH a=bH b)):aE a b=([],[],false):=by unfold aE;rw [if_neg h]
theorem nd {a b:List Part} (h1:bR a) (h2:bR b) (h3:bH a=bH b):(bR (normal (xf a b).1)/\bR (normal (xf a b).2)->aE a b=(normal (xf a b).1,normal (xf a b).2,true))/\(¬ (bR (normal (xf a b).1)/\bR (normal (xf a b).2))->aE a b=([],[],false)):=by
 unfold aE;rw [if_pos ⟨h1,h2,h3⟩];exact ⟨λh=>by rw [if_pos h],λh=>by rw [if_neg h]⟩
theorem gw {P:Part->Prop} {a b:List Part} (ha:∀ p∈a,P p) (hb:∀ p∈b,P p):∀ p∈a++b,P p:=by
 intro p hp;rcases List.mem_append.1 hp with hp|hp
 ·exact ha p hp
 ·exact hb p hp
theorem pF {X Y L M:List Part} {a b:List Part} (hi:TInv X Y) {r:XR} (hc:dr X Y=some r) (h1:L++(xf X Y).1=(xf a b).1) (h2:M++(xf X Y).2=(xf a b).2):(L++r.1.1)++(xf r.2.1 r.2.2).1=(xf a b).1/\(M++r.1.2)++(xf r.2.1 r.2.2).2=(xf a b).2:=by
 have h:=JE hi hc;rw [<- h1,<- h2,h];simp
theorem sF (a b:List Part) (ha:nL aH a<=2 ^ 40) (hb:nL aH b<=2 ^ 40):ai Tryz.prog 379 [.c (.s (a.map Part.row)),.c (.s (b.map Part.row))] (.tup [.c (.s ((aE a b).1.map Part.row)) 3,.c (.s ((aE a b).2.1.map Part.row)) 3,.c (.v (.bool (aE a b).2.2)) 1]):=by
 refine pci ae Tryz.func379 (λw0 base=>?_);simp;refine aa.pure (eE a ha) (by simp) ?_;by_cases c1:bR a
 rotate_left
 ·have e:=fk (a:=a) (b:=b) (λh=>c1 h.1)
  have e2:dc (bR a)=false:=by rw [cj];exact c1
  simp [e2,e]
 simp [c1];refine aa.pure (eE b hb) (by simp) ?_;by_cases c2:bR b
 rotate_left
 ·have e:=fk (a:=a) (b:=b) (λh=>c2 h.2.1)
  have e2:dc (bR b)=false:=by rw [cj];exact c2
  simp [e2,e]
 simp [c2];refine aa.pure (im a ha) (by simp) ?_;simp;refine aa.pure (im b hb) (by simp) ?_;by_cases c3:bH a=bH b
 rotate_left
 ·have e:=fk (a:=a) (b:=b) (λh=>c3 h.2.2)
  simp [c3,e]
 have hf:=nd c1 c2 c3;simp [c3];intro bx by_;have t1:=xz c1;have t2:=xz c2
 refine ag eok (λx:List Part×List Part×List Part×List Part×Hd×Hd=>TInv x.1 x.2.1/\(x.2.2.1++(xf x.1 x.2.1).1=(xf a b).1/\x.2.2.2.1++(xf x.1 x.2.1).2=(xf a b).2)/\((∀ p∈x.2.2.1,ar p)/\(∀ p∈x.2.2.2.1,ar p))/\(x.2.2.1.length+(tsz x.1+tsz x.2.1)<=800/\x.2.2.2.1.length+(tsz x.1+tsz x.2.1)<=800)/\x.1.length<=1000/\x.2.1.length<=1000)
  (λx=>⟨124,0,[(7,.p 528 bx 0),(8,.p 576 by_ 0),(9,.sl 5000 x.2.2.2.2.1 3 0 x.2.2.1.length),(10,.sl 5001 x.2.2.2.2.2 3 0 x.2.2.2.1.length)],
  [(528,.vars bx 324 [.ro (x.1.map Part.row)]),(576,.vars by_ 324 [.ro (x.2.1.map Part.row)]),(5000,.rows x.2.2.2.2.1 3 (x.2.2.1.map Part.row) false),(5001,.rows x.2.2.2.2.2 3 (x.2.2.2.1.map Part.row) false)]⟩) (λx=>tsz x.1+tsz x.2.1) (a,b,[],[],none,none)
  ⟨sM c1 c2 c3,by simp,by simp,by simp;omega,by have:=c1.1.2;simp only;omega,by have:=c2.1.2;simp only;omega⟩ (by simp) (λx hx=>Ent.refl ?_)
 obtain ⟨X,Y,L,M,H,G⟩:=x;obtain ⟨hi,⟨hcx,hcy⟩,⟨hL,hM⟩,⟨hlen,hlen2⟩,hlx,hly⟩:=hx;simp only at hi hcx hcy hL hM hlen hlen2 hlx hly ⊢;have xl:=Dz X;have yl:=Dz Y;obtain ⟨h0,hh0⟩:∃ h0:AH,[(528,.vars bx 324 [.ro (X.map Part.row)]),(576,.vars by_ 324 [.ro (Y.map Part.row)]),(5000,.rows H 3 (L.map Part.row) false),(5001,.rows G 3 (M.map Part.row) false)]=h0:=⟨_,rfl⟩;have R:RS 528 576 bx by_ h0 h0 X Y:=⟨by decide,by decide,by decide,by rw [<- hh0];simp,by rw [<- hh0];simp,λ_ _ _ _=>rfl⟩;have g5:AH.get h0 5000=.rows H 3 (L.map Part.row) false:=by rw [<- hh0];simp
 have g6:AH.get h0 5001=.rows G 3 (M.map Part.row) false:=by rw [<- hh0];simp
 rw [hh0]
 clear hh0
 simp;refine R.next hi.px (λh1 R=>?_);have okx:∀ p∈nxt X,ar p:=λp hp=>hi.px p (kC hp)
 have oky:∀ p∈nxt Y,ar p:=λp hp=>hi.py p (kC hp)
 have hxt:=jJ X;have hyf:=jJ Y;have hbal:=hi.b
 cases ex:nxt X with
 | nil =>
   rw [ex] at R;simp [yp];refine R.swap.next hi.py (λh2 R=>?_);have R:=R.swap
   cases ey:nxt Y with
   | nil =>
     have hc:xf X Y=([],[]):=Dc (by simp [dr,ex,ey]);simp [yp];rw [hc] at hcx hcy;simp only [List.append_nil] at hcx hcy;have e5:=R.o 5000 (by decide) (by decide) (by decide);have e6:=R.o 5001 (by decide) (by decide) (by decide);refine aa.pure (tV L hL (by omega)) (by simp [e5,g5]) ?_;simp;intro H2;refine aa.pure (tV M hM (by omega)) (by simp [e6,g6]) ?_;simp;intro H3;rw [hcx] at hL hlen ⊢;rw [hcy] at hM hlen2 ⊢;refine aa.pure (eE (normal (xf a b).1) (by have:=lA hL;omega)) (by simp) ?_;by_cases c4:bR (normal (xf a b).1)
     rotate_left
     ·have e:=hf.2 (λh=>c4 h.1)
      have e2:dc (bR (normal (xf a b).1))=false:=by rw [cj];exact c4
      simp [e2,e]
     simp [c4];refine aa.pure (eE (normal (xf a b).2) (by have:=lA hM;omega)) (by simp) ?_;by_cases c5:bR (normal (xf a b).2)
     rotate_left
     ·have e:=hf.2 (λh=>c5 h.2)
      have e2:dc (bR (normal (xf a b).2))=false:=by rw [cj];exact c5
      simp [e2,e]
     have e:=hf.1 ⟨c4,c5⟩;simp [c5,e]
   | cons q y' =>
     rw [ey] at R;have hq:=(gv hi.py ey).1;have hqb:=hq.bounds;have q0:¬ q.kind=0:=by omega
     simp [er,q0];refine R.next (by simp) (λh3 R=>?_);simp only [nxt] at R;simp [nxt,yp];refine R.swap.next (by rw [<- ey];exact oky) (λh4 R=>?_);have R:=R.swap;rw [<- ey,el,ey] at R;rw [<- ey,el,ey];by_cases q2:q.kind=2
     ·simp [er,q2]
      refine R.swap.whole hq (by simp [ey] at yl;omega) (λh5 R=>?_);have R:=R.swap;have e5:=R.o 5000 (by decide) (by decide) (by decide);have e6:=R.o 5001 (by decide) (by decide) (by decide);have hc:dr X Y=some (([⟨1,q.signs.length,[]⟩],[fd q (psz q)]),[],bn q (psz q)::y'):=by simp [dr,ex,ey,q2]
      rw [dS hq] at hc;have hn:=dE hi hc;have hdec:=hn.dec;have hcm:=pF hi hc hcx hcy;simp only at hcm hdec;rw [er];simp;intro b1;simp [e5,g5,e6,g6];intro b2;refine ⟨by omega,λH2 b3=>⟨by omega,λG2=>?_⟩⟩;refine Ent.refl ⟨[],bn q (psz q)::y',L++[⟨1,q.signs.length,[]⟩],M++[q],⟨hn.inv,hcm,⟨gw hL hn.okx,gw hM hn.oky⟩,⟨by simp;omega,by simp;omega⟩,by simp,by simp [ey] at yl ⊢;omega⟩,hdec,H2,G2,?_⟩;simp [R.gx,R.gy,Part.row]
     ·exfalso
      have:=eh ey;rw [ex] at hxt;rw [ey] at hyf;simp [frs,q2] at hxt hyf;omega
 | cons p x' =>
   rw [ex] at R;have hp:=(gv hi.px ex).1;have hpb:=hp.bounds;have p0:¬ p.kind=0:=by omega
   simp [er,p0];refine R.next (by rw [<- ex];exact okx) (λh3 R=>?_);rw [<- ex,el,ex] at R;rw [<- ex,el,ex];by_cases p2:p.kind=2
   ·simp [er,p2]
    refine R.whole hp (by simp [ex] at xl;omega) (λh5 R=>?_);have e5:=R.o 5000 (by decide) (by decide) (by decide);have e6:=R.o 5001 (by decide) (by decide) (by decide);have hc:dr X Y=some (([fd p (psz p)],[⟨1,p.signs.length,[]⟩]),bn p (psz p)::x',Y):=by simp [dr,ex,p2]
    rw [dS hp] at hc;have hn:=dE hi hc;have hdec:=hn.dec;have hcm:=pF hi hc hcx hcy;simp only at hcm hdec;rw [er];simp;intro b1;simp [e5,g5,e6,g6];intro b2;refine ⟨by omega,λH2 b3=>⟨by omega,λG2=>?_⟩⟩;refine Ent.refl ⟨bn p (psz p)::x',Y,L++[p],M++[⟨1,p.signs.length,[]⟩],⟨hn.inv,hcm,⟨gw hL hn.okx,gw hM hn.oky⟩,⟨by simp;omega,by simp;omega⟩,by simp [ex] at xl ⊢;omega,hly⟩,hdec,H2,G2,?_⟩;simp [R.gx,R.gy,Part.row]
   ·simp [er,p2]
    refine R.swap.next hi.py (λh4 R=>?_);have R:=R.swap
    cases ey:nxt Y with
    | nil =>
      exfalso
      have:=eh ex;rw [ex] at hxt;rw [ey] at hyf;simp [frs,p2] at hxt hyf;omega
    | cons q y' =>
      rw [ey] at R;have hq:=(gv hi.py ey).1;have hqb:=hq.bounds;by_cases q2:q.kind=2
      ·simp [er,q2]
       refine R.swap.whole hq (by simp [ey] at yl;omega) (λh5 R=>?_);have R:=R.swap;have e5:=R.o 5000 (by decide) (by decide) (by decide);have e6:=R.o 5001 (by decide) (by decide) (by decide);have hc:dr X Y=some (([⟨1,q.signs.length,[]⟩],[fd q (psz q)]),p::x',bn q (psz q)::y'):=by simp [dr,ex,ey,q2,p2]
       rw [dS hq] at hc;have hn:=dE hi hc;have hdec:=hn.dec;have hcm:=pF hi hc hcx hcy;simp only at hcm hdec;rw [er];simp;intro b1;simp [e5,g5,e6,g6];intro b2;refine ⟨by omega,λH2 b3=>⟨by omega,λG2=>?_⟩⟩;refine Ent.refl ⟨p::x',bn q (psz q)::y',L++[⟨1,q.signs.length,[]⟩],M++[q],⟨hn.inv,hcm,⟨gw hL hn.okx,gw hM hn.oky⟩,⟨by simp;omega,by simp;omega⟩,by simp [ex] at xl ⊢;omega,by simp [ey] at yl ⊢;omega⟩,hdec,H2,G2,?_⟩;simp [R.gx,R.gy,Part.row]
      ·simp [er,q2]
       refine R.next (by rw [<- ex];exact okx) (λh5 R=>?_);rw [<- ex,el,ex] at R;rw [<- ex,el,ex];simp [er];refine aa.pure (l8 p hp) (by simp [Part.row]) ?_;simp;refine R.swap.next (by rw [<- ey];exact oky) (λh6 R=>?_);have R:=R.swap;rw [<- ey,el,ey] at R;rw [<- ey,el,ey];simp [er];refine aa.pure (l8 q hq) (by simp [Part.row]) ?_;simp;rw [Jj];obtain ⟨n,hn⟩:∃ n,min (psz p) (psz q)=n:=⟨_,rfl⟩;rw [hn];simp;refine R.take hp (n:=n) (by omega) (by simp [ex] at xl;omega) (λh7 R=>?_);rw [er];obtain ⟨pc,hpc⟩:∃ pc,fd p n=pc:=⟨_,rfl⟩;have pk:pc.kind=p.kind:=by rw [<- hpc];simp
       rw [hpc];simp;refine R.swap.take hq (n:=n) (by omega) (by simp [ey] at yl;omega) (λh8 R=>?_);have R:=R.swap;rw [er];obtain ⟨qc,hqc⟩:∃ qc,fd q n=qc:=⟨_,rfl⟩;have qk:qc.kind=q.kind:=by rw [<- hqc];simp
       rw [hqc];have e5:=R.o 5000 (by decide) (by decide) (by decide);have e6:=R.o 5001 (by decide) (by decide) (by decide);have hc:dr X Y=some ((if q.kind=1 then [pc] else [],if p.kind=1 then [qc] else []),bn p n::x',bn q n::y'):=by simp [dr,ex,ey,p2,q2,hn,hpc,hqc]
       have hnx:=dE hi hc;have hdec:=hnx.dec;have hcm:=pF hi hc hcx hcy;have okx':=hnx.okx;have oky':=hnx.oky;have hinv:=hnx.inv
       clear hnx hc
       simp only at hcm hdec okx' oky' hinv;have hlx2:(bn p n::x').length<=1000:=by simp [ex] at xl ⊢;omega
       have hly2:(bn q n::y').length<=1000:=by simp [ey] at yl ⊢;omega
       simp;intro b1 b2;by_cases q1:q.kind=1
       ·by_cases p1:p.kind=1
        ·simp only [q1,p1,if_true] at hcm okx' oky'
         simp [qk,q1,pk,p1,e5,g5,e6,g6];intro b3;refine ⟨by omega,λH2 b4=>⟨by omega,λG2=>?_⟩⟩;refine Ent.refl ⟨bn p n::x',bn q n::y',L++[pc],M++[qc],⟨hinv,hcm,⟨gw hL okx',gw hM oky'⟩,⟨by simp;omega,by simp;omega⟩,hlx2,hly2⟩,hdec,H2,G2,?_⟩;simp [R.gx,R.gy,Part.row,pk,qk,p1,q1]
        ·simp only [q1,p1,if_true,if_false] at hcm okx' oky'
         simp [qk,q1,pk,p1,e5,g5];intro b3;refine ⟨by omega,λH2=>?_⟩;refine Ent.refl ⟨bn p n::x',bn q n::y',L++[pc],M,⟨hinv,by simpa using hcm,⟨gw hL okx',hM⟩,⟨by simp;omega,by omega⟩,hlx2,hly2⟩,hdec,H2,G,?_⟩;simp [R.gx,R.gy,Part.row,pk,q1,e6,g6]
       ·by_cases p1:p.kind=1
        ·simp only [q1,p1,if_true,if_false] at hcm okx' oky'
         simp [qk,q1,pk,p1,e6,g6];intro b3;refine ⟨by omega,λG2=>?_⟩;refine Ent.refl ⟨bn p n::x',bn q n::y',L,M++[qc],⟨hinv,by simpa using hcm,⟨hL,gw hM oky'⟩,⟨by omega,by simp;omega⟩,hlx2,hly2⟩,hdec,H,G2,?_⟩;simp [R.gx,R.gy,Part.row,qk,p1,e5,g5]
        ·simp only [q1,p1,if_false] at hcm okx' oky'
         simp [qk,q1,pk,p1];refine Ent.refl ⟨bn p n::x',bn q n::y',L,M,⟨hinv,by simpa using hcm,⟨hL,hM⟩,⟨by omega,by omega⟩,hlx2,hly2⟩,hdec,H,G,?_⟩;simp [R.gx,R.gy,e5,g5,e6,g6]
theorem ms {w0:World} {bF bG:Nat->Prop} {bl:Bool} {st:ASt} {dst:Option Nat} {K:ASt->Prop} {L:List Part} {P:List Int} {D:Int} {b:Nat} {Hl Hp:Hd} (hL:L.length<=2 ^ 20) (_hP:P.length<=2 ^ 40)
 (g160:st.h.get 640=.vars b 363 [.sl 5000 Hl 3 0 L.length,.sl 5001 Hp 1 0 P.length,.v (.int .i64 D)])
 (g5000:st.h.get 5000=.rows Hl 3 (L.map Part.row) true) (g5001:st.h.get 5001=.rows Hp 1 (P.map ak) true)
 (hK:∀ Hl' h',AH.get h' 640=.vars b 363 [.sl 5000 Hl' 3 0 (aM L P D).length,.nil,.v (.int .i64 0)] -> AH.get h' 5000=.rows Hl' 3 ((aM L P D).map Part.row) true ->
  (∀ q,q<15000->q≠640->q≠5000->q≠5001->AH.get h' q=st.h.get q)->aW ⟨st.n,st.kb,st.t,h'⟩ dst (.tup []) K):aa ⟨Tryz.prog,tt,w0,⟨bF,bG,bl,λ_=>True⟩⟩ 408 [.p 640 b 0] st dst K:=by
 refine inl ae Tryz.func408 20000 (λw1 F=>?_);simp [g160];by_cases hp:P=[]
 ·have hp0:¬ 0<P.length:=by simp [hp]
  simp [hp0,g160];by_cases hd:0<D
  ·simp [hd]
   refine drw eok mix [0,1,2,3,4,5,6,7,8,9,12,13] [10,11,14] (.c 12 10 4 4091 (.c 12 11 128 3963 (.c 12 14 3961 2 (.l 12 2) .s) .s) .s) ?_;simp [g160,g5000];intro b1;refine ⟨by omega,λH=>hK H _ ?_ ?_ ?_⟩
   ·simp [ri hp hd]
   ·simp [ri hp hd,Part.row]
   ·intro q q0 q1 q2 q3
    repeat (first|exact rfl|refine (cK (by omega)).trans ?_)
  ·simp [hd,g160]
   refine hK Hl _ ?_ ?_ ?_
   ·simp [rh hp hd]
   ·simp [rh hp hd,g5000]
   ·intro q q0 q1 q2 q3
    repeat (first|exact rfl|refine (cK (by omega)).trans ?_)
 ·have hp0:0<P.length:=List.length_pos_iff.2 hp
  simp [hp0];refine drw eok mix [0,1,2,3,4,5,6,7,8,9,12,13] [10,11,14] (.c 12 10 4 4091 (.c 12 11 128 3963 (.c 12 14 3961 2 (.l 12 2) .s) .s) .s) ?_;simp [g160,g5000,g5001];intro b1;refine ⟨by omega,λH=>?_⟩;by_cases hd:0<D
  ·simp [hd]
   refine drw eok mix [0,1,2,3,4,5,6,7,8,9,12,13] [10,11,14] (.c 12 10 4 4091 (.c 12 11 128 3963 (.c 12 14 3961 2 (.l 12 2) .s) .s) .s) ?_;simp;intro b2;refine ⟨by omega,λH2=>hK H2 _ ?_ ?_ ?_⟩
   ·simp [rk hp hd]
   ·simp [rk hp hd,Part.row]
   ·intro q q0 q1 q2 q3
    repeat (first|exact rfl|refine (cK (by omega)).trans ?_)
  ·simp [hd]
   refine hK H _ ?_ ?_ ?_
   ·simp [rj hp hd]
   ·simp [rj hp hd,Part.row]
   ·intro q q0 q1 q2 q3
    repeat (first|exact rfl|refine (cK (by omega)).trans ?_)
theorem jU {w0:World} {bF bG:Nat->Prop} {bl:Bool} {st:ASt} {dst:Option Nat} {K:ASt->Prop} {L:List Part} {P:List Int} {D n:Int} {b:Nat} {Hl Hp:Hd} (hL:L.length<=2 ^ 19) (hP:P.length<=2 ^ 40) (hn0:0<n) (hn:n<=200) (hF:∀ q∈aM L P D,0<=q.n/\q.n<=2 ^ 40)
 (g160:st.h.get 640=.vars b 363 [.sl 5000 Hl 3 0 L.length,.sl 5001 Hp 1 0 P.length,.v (.int .i64 D)])
 (g5000:st.h.get 5000=.rows Hl 3 (L.map Part.row) true) (g5001:st.h.get 5001=.rows Hp 1 (P.map ak) true)
 (hK:∀ Hl' h',AH.get h' 640=.vars b 363 [.sl 5000 Hl' 3 0 (bW (aM L P D) n).length,.nil,.v (.int .i64 0)] -> AH.get h' 5000=.rows Hl' 3 ((bW (aM L P D) n).map Part.row) true ->
  (∀ q,q<15000->q≠640->q≠5000->q≠5001->AH.get h' q=st.h.get q)->aW ⟨st.n,st.kb,st.t,h'⟩ dst (.tup []) K):aa ⟨Tryz.prog,tt,w0,⟨bF,bG,bl,λ_=>True⟩⟩ 397 [.p 640 b 0,.v (.int .i64 n)] st dst K:=by
 refine inl ae Tryz.func397 30000 (λw1 F=>?_);have n0:¬ n=0:=by omega
 simp [n0];refine ms (L:=L) (P:=P) (D:=D) (Hl:=Hl) (Hp:=Hp) (by omega) hP (by simp [g160]) (by simp [g5000]) (by simp [g5001]) (λHl' h' k160 k5000 k80=>?_);have f1:=gN L P D;generalize aM L P D=F at f1 hF k160 k5000 hK;by_cases hF0:0<F.length
 ·obtain ⟨m,hm⟩:∃ m,F.length=m+1:=⟨F.length - 1,by omega⟩
  have hmlt:m<F.length:=by omega
  have hmm:(m:Int)<m+1:=by omega
  have em:Go.IntKind.i64.wrap (m:Int)=m:=eJ (by omega)
  have hk:bW F n=if F[m].kind=1 then F.set m ⟨1,F[m].n+n,F[m].signs⟩ else F++[⟨1,n,[]⟩]:=by
   have e0:F.length - 1=m:=by omega
   simp [bW,hF0,e0]
  have hq:=hF _ (List.getElem_mem hmlt);have em2:Go.IntKind.i64.wrap (F[m].n+n)=F[m].n+n:=Go.IntWalk.i64_in _ (by omega);simp [k160,k5000,hm,em,hmm,Part.row];by_cases ck:F[m].kind=1
  ·rw [if_pos ck] at hk
   simp [ck];refine drw eok mix [0,1,2,3,4,5,6,7,8,9,10,11,12,13,14,15,16,17,18] [19] (.c 19 19 524285 2 (.l 19 2) .s) ?_;simp [k160,k5000,hm,em,hmm,Part.row,ck,em2];have hmod:=iG (F:=F) (m:=m) hmlt (g:=λrow=>eR row 1 [CD.v (Value.int IntKind.i64 (F[m].n+n))]) (p:=⟨1,F[m].n+n,F[m].signs⟩) (by simp [Part.row,ck]);refine hK Hl' _ ?_ ?_ ?_
   ·simp [k160,hk,hm]
   ·simp [hk,hmod]
   ·intro q q0 q1 q2 q3
    repeat (first|exact k80 q q0 q1 q2 q3|exact rfl|refine (cK (by omega)).trans ?_)
  ·rw [if_neg ck] at hk
   simp [ck,k160,k5000,hm];intro b1;refine ⟨by omega,λH=>hK H _ ?_ ?_ ?_⟩
   ·simp [hk,hm]
   ·simp [hk,Part.row]
   ·intro q q0 q1 q2 q3
    repeat (first|exact k80 q q0 q1 q2 q3|exact rfl|refine (cK (by omega)).trans ?_)
 ·have hF1:F=[]:=List.eq_nil_of_length_eq_zero (by omega)
  subst hF1;have hk:bW [] n=[⟨1,n,[]⟩]:=by simp [bW]
  simp [k160,k5000];intro b1 H;refine hK H _ ?_ ?_ ?_
  ·simp [hk]
  ·simp [hk,Part.row]
  ·intro q q0 q1 q2 q3
   repeat (first|exact k80 q q0 q1 q2 q3|exact rfl|refine (cK (by omega)).trans ?_)
theorem vu {w0:World} {bF bG:Nat->Prop} {bl:Bool} {st:ASt} {dst:Option Nat} {K:ASt->Prop} {L:List Part} {P l:List Int} {D:Int} {b:Nat} {Hl Hp:Hd} (hP:P.length<=2 ^ 40) (hl:l.length<=2 ^ 40)
 (g160:st.h.get 640=.vars b 363 [.sl 5000 Hl 3 0 L.length,.sl 5001 Hp 1 0 P.length,.v (.int .i64 D)]) (g5001:st.h.get 5001=.rows Hp 1 (P.map ak) true)
 (hK:∀ Hp' h',AH.get h' 640=.vars b 363 [.sl 5000 Hl 3 0 L.length,.sl 5001 Hp' 1 0 (P++l).length,.v (.int .i64 D)] -> AH.get h' 5001=.rows Hp' 1 ((P++l).map ak) true -> AH.get h' 5000=st.h.get 5000 ->
  (∀ q,q<15000->q≠640->q≠5000->q≠5001->AH.get h' q=st.h.get q)->aW ⟨st.n,st.kb,st.t,h'⟩ dst (.tup []) K):aa ⟨Tryz.prog,tt,w0,⟨bF,bG,bl,λ_=>True⟩⟩ 394 [.p 640 b 0,.ro (l.map ak)] st dst K:=by
 refine inl ae Tryz.func394 30000 (λw1 F=>?_);simp [g160,g5001];refine ⟨by omega,λH=>hK H _ ?_ ?_ ?_ ?_⟩
 ·simp
 ·simp
 ·simp
 ·intro q q0 q1 q2 q3
  repeat (first|exact rfl|refine (cK (by omega)).trans ?_)
theorem tD {w0:World} {bF bG:Nat->Prop} {bl:Bool} {st:ASt} {dst:Option Nat} {K:ASt->Prop} {n D:Int} {b:Nat} {x y:AV} (h0:0<=D/\D<=2 ^ 40) (h1:0<=n/\n<=2 ^ 40)
 (g160:st.h.get 640=.vars b 363 [x,y,.v (.int .i64 D)])
 (hK:∀ h',AH.get h' 640=.vars b 363 [x,y,.v (.int .i64 (D+n))]->(∀ q,q≠640->AH.get h' q=st.h.get q)->aW ⟨st.n,st.kb,st.t,h'⟩ dst (.tup []) K):aa ⟨Tryz.prog,tt,w0,⟨bF,bG,bl,λ_=>True⟩⟩ 393 [.p 640 b 0,.v (.int .i64 n)] st dst K:=by
 refine inl ae Tryz.func393 30000 (λw1 F=>?_);have e:Go.IntKind.i64.wrap (D+n)=D+n:=Go.IntWalk.i64_in _ (by omega);simp [g160,e];refine hK _ (by simp) (λq hq=>by simp [hq])
end Go.Proofs.YtoldjebobgocpaaGreat
