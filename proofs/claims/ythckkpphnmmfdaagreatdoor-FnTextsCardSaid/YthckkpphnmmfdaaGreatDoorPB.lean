import Derived.Test.YthckkpphnmmfdaaGreatDoorPA
import Derived.Test.YthckkpphnmmfdaaGreatDoorMF
import Derived.Test.YthckkpphnmmfdaaGreatDoorNA
namespace Go.Proofs.YthckkpphnmmfdaaGreatDoor
set_option maxRecDepth 20000
abbrev XR:=(List Part×List Part)×List Part×List Part
def eA (x y:List Part):Option XR:=
 match nxt x with
 | p :: x' => if p.kind = 2 then some (([dO p (psz p)], [⟨1, p.signs.length, []⟩]), bS p (psz p) :: x', y) else match nxt y with
   | q :: y' => if q.kind = 2 then some (([⟨1, q.signs.length, []⟩], [dO q (psz q)]), p :: x', bS q (psz q) :: y') else
       some ((if q.kind=1 then [dO p (min (psz p) (psz q))] else [],if p.kind=1 then [dO q (min (psz p) (psz q))] else []),bS p (min (psz p) (psz q))::x',bS q (min (psz p) (psz q))::y')
   | []=>none
 | [] => match nxt y with
   |q::y'=>if q.kind=2 then some (([⟨1,q.signs.length,[]⟩],[dO q (psz q)]),[],bS q (psz q)::y') else none
   | []=>none
structure TInv (x y:List Part):Prop where
 px:∀ p∈x,am p
 py:∀ p∈y,am p
 b:frs x=frs y
structure TNext (x y:List Part) (r:XR):Prop where
 inv:TInv r.2.1 r.2.2
 dec:tsz r.2.1+tsz r.2.2<tsz x+tsz y
 okx:∀ p∈r.1.1,am p
 oky:∀ p∈r.1.2,am p
 lenx:r.1.1.length<=1
 leny:r.1.2.length<=1
theorem AR {p:Part} (h:am p):am ⟨1,p.signs.length,[]⟩:=by
 have:=h.bounds;exact .inl ⟨.inl rfl,by simp only;omega,rfl⟩
theorem fk {x y:List Part} (hi:TInv x y) {r:XR} (h:eA x y=some r):TNext x y r:=by
 have hx:=oH x;have hy:=oH y;have hxt:=ie x;have hyf:=ie y;have hb:=hi.b;unfold eA at h
 cases ex:nxt x with
 | nil =>
   rw [ex] at h hx hxt
   cases ey:nxt y with
   |nil=>simp [ey] at h
   | cons q y' =>
     rw [ey] at hy hyf;have hq:=dw hi.py ey;have hp:=cH ey;simp only [ey] at h
     split at h
     ·rename_i k
      cases h
      have hs:=ei hq.1 (Nat.le_refl _);refine ⟨⟨by simp,eX hi.py ey (Nat.le_refl _),?_⟩,?_,?_,?_,by simp,by simp⟩
      ·simp [frs,k] at hxt hyf ⊢;omega
      ·simp [tsz] at hx hy ⊢;omega
      ·intro p hp;simp at hp;subst hp;exact AR hq.1
      ·intro p hp;simp at hp;subst hp;exact gF hq.1 (Nat.le_refl _)
     ·cases h
 | cons p x' =>
   rw [ex] at h hx hxt;have hp:=dw hi.px ex;have hpp:=cH ex;simp only at h
   split at h
   ·rename_i k
    cases h
    have hs:=ei hp.1 (Nat.le_refl _);refine ⟨⟨eX hi.px ex (Nat.le_refl _),hi.py,?_⟩,?_,?_,?_,by simp,by simp⟩
    ·simp [frs,k] at hxt ⊢;omega
    ·simp [tsz] at hx ⊢;omega
    ·intro q hq;simp at hq;subst hq;exact gF hp.1 (Nat.le_refl _)
    ·intro q hq;simp at hq;subst hq;exact AR hp.1
   ·rename_i k3
    cases ey:nxt y with
    |nil=>simp [ey] at h
    | cons q y' =>
      rw [ey] at hy hyf;have hq:=dw hi.py ey;have hqp:=cH ey;simp only [ey] at h
      split at h
      ·rename_i k
       cases h
       have hs:=ei hq.1 (Nat.le_refl _);refine ⟨⟨hp.2,eX hi.py ey (Nat.le_refl _),?_⟩,?_,?_,?_,by simp,by simp⟩
       ·simp [frs,k,k3] at hxt hyf ⊢;omega
       ·simp [tsz] at hx hy ⊢;omega
       ·intro p hp;simp at hp;subst hp;exact AR hq.1
       ·intro p hp;simp at hp;subst hp;exact gF hq.1 (Nat.le_refl _)
      ·rename_i k2
       cases h
       have hn1:min (psz p) (psz q)<=psz p:=by omega
       have hn2:min (psz p) (psz q)<=psz q:=by omega
       have hs1:=ei hp.1 hn1;have hs2:=ei hq.1 hn2;refine ⟨⟨eX hi.px ex hn1,eX hi.py ey hn2,?_⟩,?_,?_,?_,?_,?_⟩
       ·simp [frs,k2,k3] at hxt hyf ⊢;omega
       ·simp [tsz] at hx hy ⊢;omega
       ·intro r hr
        simp only at hr
        split at hr
        ·simp at hr;subst hr;exact gF hp.1 hn1
        ·simp at hr
       ·intro r hr
        simp only at hr
        split at hr
        ·simp at hr;subst hr;exact gF hq.1 hn2
        ·simp at hr
       ·simp only;split<;>simp
       ·simp only;split<;>simp
noncomputable def xfK:Nat->List Part->List Part->List Part×List Part
 |0,_,_=>([],[])
 | k + 1, x, y => match eA x y with
   |none=>([],[])
   |some r=>(r.1.1++(xfK k r.2.1 r.2.2).1,r.1.2++(xfK k r.2.1 r.2.2).2)
noncomputable def xf (x y:List Part):List Part×List Part:=xfK (tsz x+tsz y) x y
theorem EF:∀ (k m:Nat) {x y:List Part},TInv x y->tsz x+tsz y<=k->tsz x+tsz y<=m->xfK k x y=xfK m x y
 |0,0,_,_,_,_,_=>rfl
 | k + 1, 0, x, y, hi, h, h2 => by
   rw [xfK,xfK]
   cases hs:eA x y with
   |none=>rfl
   |some r=>have:=(fk hi hs).dec;omega
 | 0, m + 1, x, y, hi, h, h2 => by
   rw [xfK,xfK]
   cases hs:eA x y with
   |none=>rfl
   |some r=>have:=(fk hi hs).dec;omega
 | k + 1, m + 1, x, y, hi, h, h2 => by
   rw [xfK,xfK]
   cases hs:eA x y with
   |none=>rfl
   | some r =>
     have hn:=fk hi hs;have:=hn.dec;simp only;rw [EF k m hn.inv (by omega) (by omega)]
theorem HU {x y:List Part} (h:eA x y=none):xf x y=([],[]):=by
 unfold xf
 cases tsz x+tsz y with
 |zero=>rfl
 |succ k=>rw [xfK,h]
theorem HT {x y:List Part} (hi:TInv x y) {r:XR} (h:eA x y=some r):xf x y=(r.1.1++(xf r.2.1 r.2.2).1,r.1.2++(xf r.2.1 r.2.2).2):=by
 have hn:=fk hi h;have hd:=hn.dec;unfold xf;obtain ⟨k,hk⟩:∃ k,tsz x+tsz y=k+1:=⟨tsz x+tsz y - 1,by omega⟩;rw [hk,xfK,h];simp only;rw [EF k (tsz r.2.1+tsz r.2.2) hn.inv (by omega) (by omega)]
theorem wP:∀ {o:List Part},(∀ p∈o,am p)->(frs o:Int)=bW (kX 2) o
 | [],_=>rfl
 | p :: o, h => by
   have ih:=wP (λq hq=>h q (List.mem_cons_of_mem _ hq));have hp:=e9 (h p (List.mem_cons_self ..));simp only [frs,bW,kX]
   split<;>simp<;>omega
theorem vO:∀ {o:List Part},(∀ p∈o,am p)->(tos o:Int)=bW (kX 3) o
 | [],_=>rfl
 | p :: o, h => by
   have ih:=vO (λq hq=>h q (List.mem_cons_of_mem _ hq));have hp:=e9 (h p (List.mem_cons_self ..));simp only [tos,bW,kX]
   split<;>simp<;>omega
theorem gJ {o:List Part} (h:aX o):(frs o:Int)=aL o:=by
 rw [wP h.1.1,f9 (λp hp=>MV (h.1.1 p hp)),iU];unfold aL bU;rw [if_pos h.1]
theorem lM {o:List Part} (h:aX o):(tos o:Int)=cE o:=by
 rw [vO h.1.1,f9 (λp hp=>MU (h.1.1 p hp)),iU];unfold cE bU;rw [if_pos h.1]
theorem zV:∀ (o:List Part),tsz o<=frs o+tos o
 | []=>by simp [tsz]
 | p :: o => by
   have:=zV o;simp only [tsz,frs,tos]
   split<;>split<;>omega
theorem vN {o:List Part} (h:aX o):tsz o<=400:=by
 have h1:=zV o;have h2:=gJ h;have h3:=lM h;have:=h.2;omega
theorem xi {a b:List Part} (ha:aX a) (hb:aX b) (h:cE a=aL b):CInv a b:=by
 have h2:=gJ hb;have h3:=lM ha;exact ⟨ha.1.1,hb.1.1,by omega⟩
theorem vS {a b:List Part} (ha:aX a) (hb:aX b) (h:aL a=aL b):TInv a b:=by
 have h2:=gJ hb;have h3:=gJ ha;exact ⟨ha.1.1,hb.1.1,by omega⟩
open Classical in
noncomputable def be (a b:List Part):List Part×Bool:=
 if aX a/\aX b/\cE a=aL b then (if aX (normal (cmp a b)) then (normal (cmp a b),true) else ([],false)) else ([],false)
open Classical in
noncomputable def ae (a b:List Part):List Part×List Part×Bool:=
 if aX a/\aX b/\aL a=aL b then (if aX (normal (xf a b).1)/\aX (normal (xf a b).2) then (normal (xf a b).1,normal (xf a b).2,true) else ([],[],false)) else ([],[],false)
def cur (o:List Part) (i d:Nat):List Part:=
 match o.drop i with
 | []=>[]
 |p::l=>bS p d::l
theorem xe {o:List Part} {i d:Nat} (h:o.length<=i):cur o i d=[]:=by unfold cur;rw [List.drop_eq_nil_of_le h]
theorem sV {o:List Part} {i d:Nat} (h:i<o.length):cur o i d=bS o[i] d::o.drop (i+1):=by unfold cur;rw [List.drop_eq_getElem_cons h]
theorem sU {o:List Part} {i:Nat}:cur o i 0=o.drop i:=by
 unfold cur
 cases o.drop i with
 |nil=>rfl
 |cons p l=>simp [Aq]
theorem GZ {o:List Part} (ho:∀ p∈o,am p) {i:Nat} (h:i<o.length):nxt (cur o i (psz o[i]))=nxt (cur o (i+1) 0):=by
 rw [sV h,sU];have:=ei (ho _ (List.getElem_mem h)) (Nat.le_refl _);simp [nxt,this]
theorem GY {o:List Part} (ho:∀ p∈o,am p) {i d:Nat} (h:i<o.length) (hd:d<psz o[i]):nxt (cur o i d)=cur o i d:=by
 rw [sV h];have:=ei (ho _ (List.getElem_mem h)) (Nat.le_of_lt hd);have h2:¬ psz (bS o[i] d)=0:=by omega
 simp [nxt,h2]
theorem G0 {o:List Part} {i d n:Nat} (h:i<o.length) {p:Part} {l:List Part} (hc:cur o i d=p::l):bS p n::l=cur o i (d+n):=by
 rw [sV h] at hc ⊢
 cases hc
 rw [yr]
open Go.AM
theorem cj {k j:Nat} {o:AObj} {h:AH} (hne:j≠k):AH.get ((k,o)::h) j=AH.get h j:=if_neg hne
set_option maxHeartbeats 1600000
theorem jB {a b:List Part} (h:¬ (aX a/\aX b/\cE a=aL b)):be a b=([],false):=by unfold be;rw [if_neg h]
theorem wY {a b:List Part} (h1:aX a) (h2:aX b) (h3:cE a=aL b):(aX (normal (cmp a b))->be a b=(normal (cmp a b),true))/\(¬ aX (normal (cmp a b))->be a b=([],false)):=by
 unfold be;rw [if_pos ⟨h1,h2,h3⟩];exact ⟨λh=>by rw [if_pos h],λh=>by rw [if_neg h]⟩
theorem vc (p:Part) (h:am p):au Tryz.prog 244 [.agg p.row] (.one (.c (vi (psz p)) 1)):=by
 refine pci ag Tryz.func244 (λw0 base=>?_);have hp:=e9 h;have hb:=h.bounds;rw [hp.1];simp [Part.row];by_cases hk:p.kind=2
 ·have:=hb.2.2.2.2.1 hk
  simp [hk,this]
 ·have:=hb.2.2.2.2.2 hk
  simp [hk,this]
structure Cu (a:List Part) (i d:Nat) (X:List Part):Prop where
 ok:∀ p∈a,am p
 le:i<=a.length
 v:∀ h:i<a.length,d<=psz a[i]
 z:i=a.length->d=0
 c:cur a i d=X
def hdK:List Part->Int
 | []=>0
 |p::_=>p.kind
structure CR (kx ky bx by_:Nat) (h0 h:AH) (a b:List Part) (i d j e:Nat) (X Y:List Part):Prop where
 ne:kx≠ky
 lx:kx<14000 - 16
 ly:ky<14000 - 16
 gx:AH.get h kx=.vars bx 253 [.ro (a.map Part.row),.v (.int .i64 i),.v (.int .i64 d)]
 gy:AH.get h ky=.vars by_ 253 [.ro (b.map Part.row),.v (.int .i64 j),.v (.int .i64 e)]
 o:∀ q,q≠kx->q≠ky->q<14000->AH.get h q=AH.get h0 q
 cx:Cu a i d X
 cy:Cu b j e Y
theorem CR.swap {kx ky bx by_:Nat} {h0 h:AH} {a b:List Part} {i d j e:Nat} {X Y:List Part} (R:CR kx ky bx by_ h0 h a b i d j e X Y):CR ky kx by_ bx h0 h b a j e i d Y X:=⟨R.ne.symm,R.ly,R.lx,R.gy,R.gx,λq h1 h2=>R.o q h2 h1,R.cy,R.cx⟩
theorem Cu.bnd {a:List Part} {i d:Nat} {X:List Part} (h:Cu a i d X):d<=200:=by
 by_cases hlt:i<a.length
 ·have:=h.v hlt
  have:=(e9 (h.ok _ (List.getElem_mem hlt))).2;omega
 ·have:=h.z (by have:=h.le;omega)
  omega
theorem Dw {w0:World} {bF bG:Nat->Prop} {bl:Bool} {st:ASt} {dst:Option Nat} {K:ASt->Prop} {kx b i d:Nat} {a X:List Part} (_hk:kx<14000) (hl:a.length<=2 ^ 20) (cx:Cu a i d X)
 (g:st.h.get kx=.vars b 253 [.ro (a.map Part.row),.v (.int .i64 i),.v (.int .i64 d)])
 (hK:∀ h' i' d',Cu a i' d' (nxt X)->AH.get h' kx=.vars b 253 [.ro (a.map Part.row),.v (.int .i64 i'),.v (.int .i64 d')]->(∀ q,q≠kx->q<20000->AH.get h' q=st.h.get q)->bk ⟨st.n,st.kb,st.t,h'⟩ dst (.v (.int .i64 (hdK (nxt X)))) K) :
 aa ⟨Tryz.prog,tt,w0,⟨bF,bG,bl,λ_=>True⟩⟩ 220 [.p kx b 0] st dst K:=by
 refine inl ag Tryz.func220 20000 (λw1 F=>?_);simp;refine xD eok (λx:Nat×Nat=>Cu a x.1 x.2 (cur a x.1 x.2)/\nxt (cur a x.1 x.2)=nxt X) (λx=>⟨62,20000,[(0,.p kx b 0),(2,.v (.int .i64 0))],(kx,.vars b 253 [.ro (a.map Part.row),.v (.int .i64 x.1),.v (.int .i64 x.2)])::st.h⟩) (λx=>a.length - x.1) (i,d) ⟨⟨cx.ok,cx.le,cx.v,cx.z,rfl⟩,by rw [cx.c]⟩ (by simp [g]) (λx hx=>?_);obtain ⟨i,d⟩:=x;obtain ⟨hc,hn⟩:=hx;have hcl:=hc.le;have hb:=hc.bnd;simp only at hc hn hcl ⊢;simp;by_cases hlt:i<a.length
 ·have hp:=hc.ok _ (List.getElem_mem hlt)
  have hd:=hc.v hlt;have hps:=e9 hp;refine bq.quiet eok mix (by kernel_rfl) ?_;simp [hlt];refine ⟨_,_,vc a[i] hp,by simp [Part.row],?_⟩;by_cases he:d=psz a[i]
  ·have e1:Go.IntKind.i64.wrap ((i:Int)+1)=((i+1:Nat):Int):=aB (by omega)
   simp [he,e1];refine ⟨i+1,0,⟨⟨hc.ok,by omega,λ_=>by omega,λ_=>rfl,rfl⟩,?_⟩,by omega,by omega,rfl⟩;rw [<- hn,he,GZ hc.ok hlt]
  ·have he2:¬ (d:Int)=psz a[i]:=by omega
   have hne:¬ i=a.length:=by omega
   simp [he2];refine bq.quiet eok mix (by kernel_rfl) ?_;have hne2:¬ (i:Int)=a.length:=by omega
   simp [hne2];refine bq.quiet eok mix (by kernel_rfl) ?_;simp [hlt,Part.row];have hs:=GY hc.ok hlt (show d<psz a[i] by omega);rw [hs] at hn;have hk2:hdK (nxt X)=a[i].kind:=by rw [<- hn,sV hlt];simp [hdK]
   rw [hk2] at hK;refine hK _ i d ⟨hc.ok,hc.le,hc.v,hc.z,hn⟩ (by simp) (λq q1 q2=>by simp [q1])
 ·have hi:i=a.length:=by omega
  have hd:=hc.z hi;refine bq.quiet eok mix (by kernel_rfl) ?_;simp [hlt];refine bq.quiet eok mix (by kernel_rfl) ?_;simp [hi];have hn2:nxt X=[]:=by rw [<- hn,xe (by omega)];rfl
  rw [hn2] at hK;refine hK _ i d ⟨hc.ok,hc.le,hc.v,hc.z,xe (by omega)⟩ (by simp [hi]) (λq q1 q2=>by simp [q1])
theorem Cu.head {a:List Part} {i d:Nat} {p:Part} {l:List Part} (h:Cu a i d (p::l)):∃ hi:i<a.length,p=bS a[i] d/\l=a.drop (i+1)/\psz p=psz a[i] - d/\d<=psz a[i]/\p.kind=a[i].kind/\am p:=by
 have hi:i<a.length:=by
  have:=h.le;rcases Nat.lt_or_ge i a.length with h1|h1
  ·exact h1
  ·have:=h.c
   rw [xe h1] at this
   cases this
 have hc:=h.c;rw [sV hi] at hc
 cases hc
 have hp:=h.ok _ (List.getElem_mem hi);exact ⟨hi,rfl,rfl,ei hp (h.v hi),h.v hi,by simp,yt hp (h.v hi)⟩
theorem Cu.add {a:List Part} {i d n:Nat} {p:Part} {l:List Part} (h:Cu a i d (p::l)) (hn:n<=psz p):Cu a i (d+n) (bS p n::l):=by
 obtain ⟨hi,h1,h2,h3,h4,-,-⟩:=h.head;exact ⟨h.ok,h.le,λ_=>by omega,λhe=>by omega,(G0 hi h.c).symm⟩
theorem Dj {w0:World} {bF bG:Nat->Prop} {bl:Bool} {st:ASt} {dst:Option Nat} {K:ASt->Prop} {kx b i d:Nat} {a l:List Part} {p:Part} (cx:Cu a i d (p::l))
 (g:st.h.get kx=.vars b 253 [.ro (a.map Part.row),.v (.int .i64 i),.v (.int .i64 d)])
 (hK:bk st dst (.v (.int .i64 (psz p))) K) :
 aa ⟨Tryz.prog,tt,w0,⟨bF,bG,bl,λ_=>True⟩⟩ 221 [.p kx b 0] st dst K:=by
 refine inl ag Tryz.func221 20000 (λw1 F=>?_);obtain ⟨hi,h1,h2,h3,h4,-,-⟩:=cx.head;have hp:=cx.ok _ (List.getElem_mem hi);have hps:=e9 hp;simp;refine bq.quiet eok mix (by kernel_rfl) ?_;simp [g,hi];refine ⟨_,_,vc a[i] hp,by simp [Part.row],?_⟩;have e:Go.IntKind.i64.wrap ((psz a[i]:Int) - (d:Int))=(psz p:Int):=by rw [Go.IntWalk.i64_in _ (by omega)];omega
 simp [e];exact hK
theorem xg {w0:World} {bF bG:Nat->Prop} {bl:Bool} {st:ASt} {dst:Option Nat} {K:ASt->Prop} {kx b i d n:Nat} {a l:List Part} {p:Part} (_hk:kx<14000) (cx:Cu a i d (p::l)) (hk2:p.kind=2) (hn:n<=psz p)
 (g:st.h.get kx=.vars b 253 [.ro (a.map Part.row),.v (.int .i64 i),.v (.int .i64 d)])
 (hK:∀ h',Cu a i (d+n) (bS p n::l)->AH.get h' kx=.vars b 253 [.ro (a.map Part.row),.v (.int .i64 i),.v (.int .i64 ((d+n:Nat):Int))]->(∀ q,q≠kx->q<20000->AH.get h' q=st.h.get q)->bk ⟨st.n,st.kb,st.t,h'⟩ dst (.ro ((p.signs.take n).map bc)) K) :
 aa ⟨Tryz.prog,tt,w0,⟨bF,bG,bl,λ_=>True⟩⟩ 222 [.p kx b 0,.v (.int .i64 n)] st dst K:=by
 refine inl ag Tryz.func222 20000 (λw1 F=>?_);obtain ⟨hi,h1,h2,h3,h4,h5,-⟩:=cx.head;have hp:=cx.ok _ (List.getElem_mem hi);have hps:=e9 hp;have hkk:a[i].kind=2:=by rw [<- h5];exact hk2
 have hn0:=hp.bounds.2.2.2.2.1 hkk;have hsz:psz a[i]=a[i].signs.length:=by omega
 have hs:p.signs=a[i].signs.drop d:=by rw [h1];simp [bS,hkk]
 have e:Go.IntKind.i64.wrap ((d:Int)+(n:Int))=((d+n:Nat):Int):=by rw [Go.IntWalk.i64_in _ (by omega)];omega
 have hle:d+n<=a[i].signs.length:=by omega
 have hv:cut (a[i].signs.map bc) d n=(p.signs.take n).map bc:=by
  unfold cut
  split
  ·rename_i hh
   rw [hs,hh.1];simp at hh;simp [hh.2]
  ·rw [hs,List.map_take,List.map_drop]
 obtain ⟨m,hm⟩:∃ m,d+n=m:=⟨_,rfl⟩;have e2:m - d=n:=by omega
 have hadd:=cx.add hn;rw [hm] at e hle hK hadd;simp;refine bq.quiet eok mix (by kernel_rfl) ?_;simp [g,hi,Part.row,e,e2,hv];simp only [List.map_take] at hK;refine ⟨hle,by omega,hK _ hadd ?_ (λq q1 q2=>?_)⟩
 ·simp
 ·simp [q1]
theorem yR (x y:Nat):au Tryz.prog 223 [.c (vi x),.c (vi y)] (.one (.c (vi ((min x y:Nat):Int)) 1)):=by
 refine pci ag Tryz.func223 (λw0 base=>?_);simp;by_cases h:x<y
 ·have:min x y=x:=by omega
  simp [h,this]
 ·have:min x y=y:=by omega
  simp [h,this]
section
variable {w0:World} {bF bG:Nat->Prop} {bl:Bool} {st:ASt} {dst:Option Nat} {K:ASt->Prop} {kx ky bx by_ i d j e:Nat} {h0:AH} {a b X Y:List Part}
theorem CR.kind (R:CR kx ky bx by_ h0 st.h a b i d j e X Y) (hl:a.length<=2 ^ 20) (hK:∀ h' i' d',CR kx ky bx by_ h0 h' a b i' d' j e (nxt X) Y->bk ⟨st.n,st.kb,st.t,h'⟩ dst (.v (.int .i64 (hdK (nxt X)))) K) :
 aa ⟨Tryz.prog,tt,w0,⟨bF,bG,bl,λ_=>True⟩⟩ 220 [.p kx bx 0] st dst K:=by
 have:=R.lx;have:=R.ly;refine Dw (by omega) hl R.cx R.gx (λh1 i1 d1 c1 g1 o1=>hK h1 i1 d1 ⟨R.ne,R.lx,R.ly,g1,by rw [o1 ky R.ne.symm (by omega)];exact R.gy,λq q1 q2 q3=>by rw [o1 q q1 (by omega)];exact R.o q q1 q2 q3,c1,R.cy⟩)
theorem CR.left {p:Part} {l:List Part} (R:CR kx ky bx by_ h0 st.h a b i d j e (p::l) Y) (hK:bk st dst (.v (.int .i64 (psz p))) K) :
 aa ⟨Tryz.prog,tt,w0,⟨bF,bG,bl,λ_=>True⟩⟩ 221 [.p kx bx 0] st dst K:=Dj R.cx R.gx hK
theorem CR.take {p:Part} {l:List Part} {n:Nat} (R:CR kx ky bx by_ h0 st.h a b i d j e (p::l) Y) (hk2:p.kind=2) (hn:n<=psz p) (hK:∀ h',CR kx ky bx by_ h0 h' a b i (d+n) j e (bS p n::l) Y->bk ⟨st.n,st.kb,st.t,h'⟩ dst (.ro ((p.signs.take n).map bc)) K) :
 aa ⟨Tryz.prog,tt,w0,⟨bF,bG,bl,λ_=>True⟩⟩ 222 [.p kx bx 0,.v (.int .i64 n)] st dst K:=by
 have:=R.lx;have:=R.ly;refine xg (by omega) R.cx hk2 hn R.gx (λh1 c1 g1 o1=>hK h1 ⟨R.ne,R.lx,R.ly,g1,by rw [o1 ky R.ne.symm (by omega)];exact R.gy,λq q1 q2 q3=>by rw [o1 q q1 (by omega)];exact R.o q q1 q2 q3,c1,R.cy⟩)
theorem CR.rebase (R:CR kx ky bx by_ h0 st.h a b i d j e X Y) {h':AH} (hx:AH.get h' kx=AH.get st.h kx) (hy:AH.get h' ky=AH.get st.h ky):CR kx ky bx by_ h' h' a b i d j e X Y:=
 ⟨R.ne,R.lx,R.ly,hx.trans R.gx,hy.trans R.gy,λ_ _ _ _=>rfl,R.cx,R.cy⟩
theorem CR.done {p:Part} {l:List Part} {n:Nat} (R:CR kx ky bx by_ h0 st.h a b i d j e (p::l) Y) (hn:n<=psz p):CR kx ky bx by_ ((kx,.vars bx 253 [.ro (a.map Part.row),.v (.int .i64 i),.v (.int .i64 ((d+n:Nat):Int))])::st.h) ((kx,.vars bx 253 [.ro (a.map Part.row),.v (.int .i64 i),.v (.int .i64 ((d+n:Nat):Int))])::st.h) a b i (d+n) j e (bS p n::l) Y:=
 ⟨R.ne,R.lx,R.ly,by simp,by rw [aU,if_neg R.ne.symm];exact R.gy,λ_ _ _ _=>rfl,R.cx.add hn,R.cy⟩
end
open Go.AM
set_option maxRecDepth 20000
theorem lq {w0:World} {bF bG:Nat->Prop} {bl:Bool} {st:ASt} {dst:Option Nat} {K:ASt->Prop} {L:List Part} {P:List Int} {D:Int} {b:Nat} {Hl Hp:Hd} (hL:L.length<=2 ^ 20) (_hP:P.length<=2 ^ 40)
 (g160:st.h.get 576=.vars b 177 [.sl 5000 Hl 3 0 L.length,.sl 5001 Hp 1 0 P.length,.v (.int .i64 D)])
 (g5000:st.h.get 5000=.rows Hl 3 (L.map Part.row) true) (g5001:st.h.get 5001=.rows Hp 1 (P.map bc) true)
 (hK:∀ Hl' h',AH.get h' 576=.vars b 177 [.sl 5000 Hl' 3 0 (aA L P D).length,.nil,.v (.int .i64 0)] -> AH.get h' 5000=.rows Hl' 3 ((aA L P D).map Part.row) true ->
  (∀ q,q<15000->q≠576->q≠5000->q≠5001->AH.get h' q=st.h.get q)->bk ⟨st.n,st.kb,st.t,h'⟩ dst (.tup []) K):aa ⟨Tryz.prog,tt,w0,⟨bF,bG,bl,λ_=>True⟩⟩ 197 [.p 576 b 0] st dst K:=by
 refine inl ag Tryz.func197 20000 (λw1 F=>?_);simp [g160];by_cases hp:P=[]
 ·have hp0:¬ 0<P.length:=by simp [hp]
  simp [hp0,g160];by_cases hd:0<D
  ·simp [hd]
   refine drw eok mix [0,1,2,3,4,5,6,7,8,9,12,13] [10,11,14] (.c 12 10 4 4091 (.c 12 11 128 3963 (.c 12 14 3961 2 (.l 12 2) .s) .s) .s) ?_;simp [g160,g5000];intro b1;refine ⟨by omega,λH=>hK H _ ?_ ?_ ?_⟩
   ·simp [mh hp hd]
   ·simp [mh hp hd,Part.row]
   ·intro q q0 q1 q2 q3
    repeat (first|exact rfl|refine (cj (by omega)).trans ?_)
  ·simp [hd,g160]
   refine hK Hl _ ?_ ?_ ?_
   ·simp [mg hp hd]
   ·simp [mg hp hd,g5000]
   ·intro q q0 q1 q2 q3
    repeat (first|exact rfl|refine (cj (by omega)).trans ?_)
 ·have hp0:0<P.length:=List.length_pos_iff.2 hp
  simp [hp0];refine drw eok mix [0,1,2,3,4,5,6,7,8,9,12,13] [10,11,14] (.c 12 10 4 4091 (.c 12 11 128 3963 (.c 12 14 3961 2 (.l 12 2) .s) .s) .s) ?_;simp [g160,g5000,g5001];intro b1;refine ⟨by omega,λH=>?_⟩;by_cases hd:0<D
  ·simp [hd]
   refine drw eok mix [0,1,2,3,4,5,6,7,8,9,12,13] [10,11,14] (.c 12 10 4 4091 (.c 12 11 128 3963 (.c 12 14 3961 2 (.l 12 2) .s) .s) .s) ?_;simp;intro b2;refine ⟨by omega,λH2=>hK H2 _ ?_ ?_ ?_⟩
   ·simp [mj hp hd]
   ·simp [mj hp hd,Part.row]
   ·intro q q0 q1 q2 q3
    repeat (first|exact rfl|refine (cj (by omega)).trans ?_)
  ·simp [hd]
   refine hK H _ ?_ ?_ ?_
   ·simp [mi hp hd]
   ·simp [mi hp hd,Part.row]
   ·intro q q0 q1 q2 q3
    repeat (first|exact rfl|refine (cj (by omega)).trans ?_)
theorem rY {w0:World} {bF bG:Nat->Prop} {bl:Bool} {st:ASt} {dst:Option Nat} {K:ASt->Prop} {L:List Part} {P:List Int} {D n:Int} {b:Nat} {Hl Hp:Hd} (hL:L.length<=2 ^ 19) (hP:P.length<=2 ^ 40) (hn0:0<n) (hn:n<=200) (hF:∀ q∈aA L P D,0<=q.n/\q.n<=2 ^ 40)
 (g160:st.h.get 576=.vars b 177 [.sl 5000 Hl 3 0 L.length,.sl 5001 Hp 1 0 P.length,.v (.int .i64 D)])
 (g5000:st.h.get 5000=.rows Hl 3 (L.map Part.row) true) (g5001:st.h.get 5001=.rows Hp 1 (P.map bc) true)
 (hK:∀ Hl' h',AH.get h' 576=.vars b 177 [.sl 5000 Hl' 3 0 (bJ (aA L P D) n).length,.nil,.v (.int .i64 0)] -> AH.get h' 5000=.rows Hl' 3 ((bJ (aA L P D) n).map Part.row) true ->
  (∀ q,q<15000->q≠576->q≠5000->q≠5001->AH.get h' q=st.h.get q)->bk ⟨st.n,st.kb,st.t,h'⟩ dst (.tup []) K):aa ⟨Tryz.prog,tt,w0,⟨bF,bG,bl,λ_=>True⟩⟩ 152 [.p 576 b 0,.v (.int .i64 n)] st dst K:=by
 refine inl ag Tryz.func152 30000 (λw1 F=>?_);have n0:¬ n=0:=by omega
 simp [n0];refine lq (L:=L) (P:=P) (D:=D) (Hl:=Hl) (Hp:=Hp) (by omega) hP (by simp [g160]) (by simp [g5000]) (by simp [g5001]) (λHl' h' k160 k5000 k80=>?_);have f1:=fo L P D;generalize aA L P D=F at f1 hF k160 k5000 hK;by_cases hF0:0<F.length
 ·obtain ⟨m,hm⟩:∃ m,F.length=m+1:=⟨F.length - 1,by omega⟩
  have hmlt:m<F.length:=by omega
  have hmm:(m:Int)<m+1:=by omega
  have em:Go.IntKind.i64.wrap (m:Int)=m:=iM (by omega)
  have hk:bJ F n=if F[m].kind=1 then F.set m ⟨1,F[m].n+n,F[m].signs⟩ else F++[⟨1,n,[]⟩]:=by
   have e0:F.length - 1=m:=by omega
   simp [bJ,hF0,e0]
  have hq:=hF _ (List.getElem_mem hmlt);have em2:Go.IntKind.i64.wrap (F[m].n+n)=F[m].n+n:=Go.IntWalk.i64_in _ (by omega);simp [k160,k5000,hm,em,hmm,Part.row];by_cases ck:F[m].kind=1
  ·rw [if_pos ck] at hk
   simp [ck];refine drw eok mix [0,1,2,3,4,5,6,7,8,9,10,11,12,13,14,15,16,17,18] [19] (.c 19 19 524285 2 (.l 19 2) .s) ?_;simp [k160,k5000,hm,em,hmm,Part.row,ck,em2];have hmod:=gg (F:=F) (m:=m) hmlt (g:=λrow=>eh row 1 [CD.v (Value.int IntKind.i64 (F[m].n+n))]) (p:=⟨1,F[m].n+n,F[m].signs⟩) (by simp [Part.row,ck]);refine hK Hl' _ ?_ ?_ ?_
   ·simp [k160,hk,hm]
   ·simp [hk,hmod]
   ·intro q q0 q1 q2 q3
    repeat (first|exact k80 q q0 q1 q2 q3|exact rfl|refine (cj (by omega)).trans ?_)
  ·rw [if_neg ck] at hk
   simp [ck,k160,k5000,hm];intro b1;refine ⟨by omega,λH=>hK H _ ?_ ?_ ?_⟩
   ·simp [hk,hm]
   ·simp [hk,Part.row]
   ·intro q q0 q1 q2 q3
    repeat (first|exact k80 q q0 q1 q2 q3|exact rfl|refine (cj (by omega)).trans ?_)
 ·have hF1:F=[]:=List.eq_nil_of_length_eq_zero (by omega)
  subst hF1;have hk:bJ [] n=[⟨1,n,[]⟩]:=by simp [bJ]
  simp [k160,k5000];intro b1 H;refine hK H _ ?_ ?_ ?_
  ·simp [hk]
  ·simp [hk,Part.row]
  ·intro q q0 q1 q2 q3
   repeat (first|exact k80 q q0 q1 q2 q3|exact rfl|refine (cj (by omega)).trans ?_)
theorem jH {w0:World} {bF bG:Nat->Prop} {bl:Bool} {st:ASt} {dst:Option Nat} {K:ASt->Prop} {L:List Part} {P l:List Int} {D:Int} {b:Nat} {Hl Hp:Hd} (hP:P.length<=2 ^ 40) (hl:l.length<=2 ^ 40)
 (g160:st.h.get 576=.vars b 177 [.sl 5000 Hl 3 0 L.length,.sl 5001 Hp 1 0 P.length,.v (.int .i64 D)]) (g5001:st.h.get 5001=.rows Hp 1 (P.map bc) true)
 (hK:∀ Hp' h',AH.get h' 576=.vars b 177 [.sl 5000 Hl 3 0 L.length,.sl 5001 Hp' 1 0 (P++l).length,.v (.int .i64 D)] -> AH.get h' 5001=.rows Hp' 1 ((P++l).map bc) true -> AH.get h' 5000=st.h.get 5000 ->
  (∀ q,q<15000->q≠576->q≠5000->q≠5001->AH.get h' q=st.h.get q)->bk ⟨st.n,st.kb,st.t,h'⟩ dst (.tup []) K):aa ⟨Tryz.prog,tt,w0,⟨bF,bG,bl,λ_=>True⟩⟩ 153 [.p 576 b 0,.ro (l.map bc)] st dst K:=by
 refine inl ag Tryz.func153 30000 (λw1 F=>?_);simp [g160,g5001];refine ⟨by omega,λH=>hK H _ ?_ ?_ ?_ ?_⟩
 ·simp
 ·simp
 ·simp
 ·intro q q0 q1 q2 q3
  repeat (first|exact rfl|refine (cj (by omega)).trans ?_)
theorem lR {w0:World} {bF bG:Nat->Prop} {bl:Bool} {st:ASt} {dst:Option Nat} {K:ASt->Prop} {n D:Int} {b:Nat} {x y:AV} (h0:0<=D/\D<=2 ^ 40) (h1:0<=n/\n<=2 ^ 40)
 (g160:st.h.get 576=.vars b 177 [x,y,.v (.int .i64 D)])
 (hK:∀ h',AH.get h' 576=.vars b 177 [x,y,.v (.int .i64 (D+n))]->(∀ q,q≠576->AH.get h' q=st.h.get q)->bk ⟨st.n,st.kb,st.t,h'⟩ dst (.tup []) K):aa ⟨Tryz.prog,tt,w0,⟨bF,bG,bl,λ_=>True⟩⟩ 154 [.p 576 b 0,.v (.int .i64 n)] st dst K:=by
 refine inl ag Tryz.func154 30000 (λw1 F=>?_);have e:Go.IntKind.i64.wrap (D+n)=D+n:=Go.IntWalk.i64_in _ (by omega);simp [g160,e];refine hK _ (by simp) (λq hq=>by simp [hq])
set_option maxHeartbeats 1600000
theorem cB (L:List Part) (p:Part):aY (L++[p])=cA (aY L) p:=by simp [aY,List.foldl_append]
theorem pD {L:List Part} (h:∀ p∈L,am p):NbOk L.length (aY L):=by
 have:=j0 h L.length (Nat.le_refl _)
 rwa [List.take_length] at this
theorem tN (a b:List Part) (ha:nL aC a<=2 ^ 40) (hb:nL aC b<=2 ^ 40):au Tryz.prog 192 [.c (.s (a.map Part.row)),.c (.s (b.map Part.row))] (.tup [.c (.s ((be a b).1.map Part.row)) 3,.c (.v (.bool (be a b).2)) 1]):=by
 refine pci ag Tryz.func192 (λw0 base=>?_);simp;refine aa.pure (cz a ha) (by simp) ?_;by_cases c1:aX a
 rotate_left
 ·have e:=jB (a:=a) (b:=b) (λh=>c1 h.1)
  have e2:dc (aX a)=false:=by rw [bQ];exact c1
  simp [e2,e]
 simp [c1];refine aa.pure (cz b hb) (by simp) ?_;by_cases c2:aX b
 rotate_left
 ·have e:=jB (a:=a) (b:=b) (λh=>c2 h.2.1)
  have e2:dc (aX b)=false:=by rw [bQ];exact c2
  simp [e2,e]
 simp [c2];refine aa.pure (gT a ha) (by simp) ?_;simp;refine aa.pure (du b hb) (by simp) ?_;by_cases c3:cE a=aL b
 rotate_left
 ·have e:=jB (a:=a) (b:=b) (λh=>c3 h.2.2)
  simp [c3,e]
 have hf:=wY c1 c2 c3;simp [c3];intro bx by_ bz;have t1:=vN c1;have t2:=vN c2;have la:=c1.1.2;have lb:=c2.1.2;have z0:∀ o:List Part,cur o 0 0=o:=λo=>by rw [sU,List.drop_zero]
 refine ar eok (λx:Nat×Nat×Nat×Nat×List Part×Hd×Hd=>Cu a x.1 x.2.1 (cur a x.1 x.2.1)/\Cu b x.2.2.1 x.2.2.2.1 (cur b x.2.2.1 x.2.2.2.1)/\CInv (cur a x.1 x.2.1) (cur b x.2.2.1 x.2.2.2.1)/\x.2.2.2.2.1++cmp (cur a x.1 x.2.1) (cur b x.2.2.1 x.2.2.2.1)=cmp a b/\(∀ p∈x.2.2.2.2.1,am p)/\x.2.2.2.2.1.length+(tsz (cur a x.1 x.2.1)+tsz (cur b x.2.2.1 x.2.2.2.1))<=800)
  (λx=>⟨144,0,[(6,.p 496 bx 0),(7,.p 544 by_ 0),(8,.p 576 bz 0)],
  [(496, .vars bx 253 [.ro (a.map Part.row), .v (.int .i64 x.1), .v (.int .i64 x.2.1)]), (544, .vars by_ 253 [.ro (b.map Part.row), .v (.int .i64 x.2.2.1), .v (.int .i64 x.2.2.2.1)]),
   (576,.vars bz 177 [.sl 5000 x.2.2.2.2.2.1 3 0 (aY x.2.2.2.2.1).1.length,.sl 5001 x.2.2.2.2.2.2 1 0 (aY x.2.2.2.2.1).2.1.length,.v (.int .i64 (aY x.2.2.2.2.1).2.2)]),
   (5000,.rows x.2.2.2.2.2.1 3 ((aY x.2.2.2.2.1).1.map Part.row) true),(5001,.rows x.2.2.2.2.2.2 1 ((aY x.2.2.2.2.1).2.1.map bc) true)]⟩) (λx=>tsz (cur a x.1 x.2.1)+tsz (cur b x.2.2.1 x.2.2.2.1)) (0,0,0,0,[],none,none)
  ⟨⟨c1.1.1,Nat.zero_le _,λ_=>Nat.zero_le _,λ_=>rfl,rfl⟩,⟨c2.1.1,Nat.zero_le _,λ_=>Nat.zero_le _,λ_=>rfl,rfl⟩,by simp only [z0];exact xi c1 c2 c3,by simp [z0],by simp,by simp [z0];omega⟩ (by simp [aY]) (λx hx=>Ent.refl ?_)
 obtain ⟨i,d,j,e,L,H,G⟩:=x;obtain ⟨cx,cy,hi,hcmp,hL,hlen⟩:=hx;simp only at cx cy hi hcmp hL hlen ⊢;have hB:=pD hL;obtain ⟨B,hBe⟩:∃ B,aY L=B:=⟨_,rfl⟩;obtain ⟨BL,BP,BD⟩:=B;rw [hBe] at hB;obtain ⟨k1,k2,k3,k4,k5⟩:=hB;simp only [hBe];simp only at k1 k2 k3 k4 k5;obtain ⟨X,hX⟩:∃ X,cur a i d=X:=⟨_,rfl⟩;obtain ⟨Y,hY⟩:∃ Y,cur b j e=Y:=⟨_,rfl⟩;rw [hX] at cx hi hcmp hlen;rw [hY] at cy hi hcmp hlen
 obtain ⟨h0,hh0⟩:∃ h0:AH,[(496,.vars bx 253 [.ro (a.map Part.row),.v (.int .i64 i),.v (.int .i64 d)]),(544,.vars by_ 253 [.ro (b.map Part.row),.v (.int .i64 j),.v (.int .i64 e)]),
  (576,.vars bz 177 [.sl 5000 H 3 0 BL.length,.sl 5001 G 1 0 BP.length,.v (.int .i64 BD)]),
  (5000,.rows H 3 (BL.map Part.row) true),(5001,.rows G 1 (BP.map bc) true)]=h0:=⟨_,rfl⟩
 have R:CR 496 544 bx by_ h0 h0 a b i d j e X Y:=⟨by decide,by decide,by decide,by rw [<- hh0];simp,by rw [<- hh0];simp,λ_ _ _ _=>rfl,cx,cy⟩;have g5:AH.get h0 5000=.rows H 3 (BL.map Part.row) true:=by rw [<- hh0];simp
 have g6:AH.get h0 5001=.rows G 1 (BP.map bc) true:=by rw [<- hh0];simp
 have g7:AH.get h0 576=.vars bz 177 [.sl 5000 H 3 0 BL.length,.sl 5001 G 1 0 BP.length,.v (.int .i64 BD)]:=by rw [<- hh0];simp
 rw [hh0]
 clear hh0
 simp
 have fin:∀ {i' d' j' e':Nat} {r:List Part×List Part×List Part},Cu a i' d' r.2.1 -> Cu b j' e' r.2.2 -> fV X Y=some r ->
  (Cu a i' d' (cur a i' d')/\Cu b j' e' (cur b j' e')/\CInv (cur a i' d') (cur b j' e')/\(L++r.1)++cmp (cur a i' d') (cur b j' e')=cmp a b/\(∀ p∈L++r.1,am p)/\(L++r.1).length+(tsz (cur a i' d')+tsz (cur b j' e'))<=800)/\tsz (cur a i' d')+tsz (cur b j' e')<tsz (cur a i d)+tsz (cur b j e):=by
  intro i' d' j' e' r hu hv hs;have hn:=hU hi hs;have hcm:=zw hi hs;have hdec:=hn.dec;have hln:=hn.len;rw [hu.c,hv.c,hX,hY];refine ⟨⟨hu,hv,hn.inv,by rw [List.append_assoc,<- hcm,hcmp],?_,?_⟩,hdec⟩
  ·intro p hp
   rcases List.mem_append.1 hp with hp|hp
   ·exact hL p hp
   ·exact hn.ok p hp
  ·rw [List.length_append];omega
 refine R.kind (by omega) (λh1 i1 d1 R=>?_);have okx:∀ p∈nxt X,am p:=λp hp=>hi.px p (jw hp)
 have oky:∀ p∈nxt Y,am p:=λp hp=>hi.py p (jw hp)
 have hxt:=rj X;have hyf:=ie Y;have hbal:=hi.b
 cases ex:nxt X with
 | nil =>
   rw [ex] at R;simp [hdK];refine R.swap.kind (by omega) (λh2 j1 e1 R=>?_);have R:=R.swap
   cases ey:nxt Y with
   | nil =>
     have hc:cmp X Y=[]:=zx (by simp [fV,ex,ey]);simp [hdK];rw [hc,List.append_nil] at hcmp;have e5:=R.o 5000 (by decide) (by decide) (by decide);have e6:=R.o 5001 (by decide) (by decide) (by decide);have e7:=R.o 576 (by decide) (by decide) (by decide);refine inl ag Tryz.func155 30000 (λw1 F=>?_);simp;refine lq (L:=BL) (P:=BP) (D:=BD) (Hl:=H) (Hp:=G) (by omega) (by omega) (by simp [e7,g7]) (by simp [e5,g5]) (by simp [e6,g6]) (λHl' h' k576 k5000 ko=>?_);have hnorm:aA BL BP BD=normal (cmp a b):=by rw [<- hcmp];unfold normal;rw [hBe]
     rw [hnorm] at k576 k5000;simp [k576];refine aa.pure (cz (normal (cmp a b)) (by rw [<- hcmp];have:=mN hL;omega)) (by simp [k5000]) ?_;by_cases c4:aX (normal (cmp a b))
     ·have e:=hf.1 c4
      simp [c4,e,k5000]
     ·have e:=hf.2 c4
      have e2:dc (aX (normal (cmp a b)))=false:=by rw [bQ];exact c4
      simp [e2,e]
   | cons q y' =>
     rw [ey] at R;have hq:=(dw hi.py ey).1;have hqb:=hq.bounds;have q0:¬ q.kind=0:=by omega
     simp [hdK,q0];refine R.kind (by omega) (λh3 i2 d2 R=>?_);simp only [nxt] at R;simp [nxt,hdK];refine R.swap.kind (by omega) (λh4 j2 e2 R=>?_);have R:=R.swap;rw [<- ey,dW,ey] at R;rw [<- ey,dW,ey];by_cases q2:q.kind=2
     ·simp [hdK,q2]
      refine R.swap.left ?_;simp;refine R.swap.take q2 (Nat.le_refl _) (λh5 R=>?_);have R:=R.swap;have e5:=R.o 5000 (by decide) (by decide) (by decide);have e6:=R.o 5001 (by decide) (by decide) (by decide);have e7:=R.o 576 (by decide) (by decide) (by decide);simp;have hc:fV X Y=some ([dO q (psz q)],[],bS q (psz q)::y'):=by simp [fV,ex,ey,q2]
      have hf:=fin R.cx R.cy hc;rw [d7 hq] at hf;have hpsz:psz q=q.signs.length:=by have:=hqb.2.2.2.2.1 q2;unfold psz;omega
      have htk:q.signs.take (psz q)=q.signs:=List.take_of_length_le (by omega);rw [<- List.map_take,htk];refine jH (L:=BL) (P:=BP) (D:=BD) (Hl:=H) (Hp:=G) (by omega) (by omega) (by simp [e7,g7]) (by simp [e6,g6]) (λHp' h' k576 k5001 k5000 ko=>?_);have R:=R.rebase (h':=h') (ko 496 (by decide) (by decide) (by decide) (by decide)) (ko 544 (by decide) (by decide) (by decide) (by decide));simp;refine Ent.refl ⟨_,_,_,_,_,hf.1,hf.2,H,Hp',?_⟩;rw [cB,hBe];simp [cA,q2,R.gx,R.gy,k576,k5001,k5000,e5,g5]
     ·exfalso
      have:=cH ey;rw [ex] at hxt;rw [ey] at hyf;simp [tos,frs,q2] at hxt hyf;omega
 | cons p x' =>
   rw [ex] at R;have hp:=(dw hi.px ex).1;have hpb:=hp.bounds;have hps:=e9 hp;have p0:¬ p.kind=0:=by omega
   simp [hdK,p0];refine R.kind (by omega) (λh3 i2 d2 R=>?_);rw [<- ex,dW,ex] at R;rw [<- ex,dW,ex];by_cases p3:p.kind=3
   ·simp [hdK,p3]
    refine R.left ?_;simp;have e5:=R.o 5000 (by decide) (by decide) (by decide);have e6:=R.o 5001 (by decide) (by decide) (by decide);have e7:=R.o 576 (by decide) (by decide) (by decide);refine lR (n:=(psz p:Int)) (D:=BD) (by omega) (by omega) (e7.trans g7) (λh' k576 ko=>?_);have R:=R.rebase (h':=h') (ko 496 (by decide)) (ko 544 (by decide));have hc:fV X Y=some ([dO p (psz p)],bS p (psz p)::x',Y):=by simp [fV,ex,p3]
    have hd:=R.done (st:=⟨144,0,[],h'⟩) (Nat.le_refl (psz p));obtain ⟨m,hm⟩:∃ m,d2+psz p=m:=⟨_,rfl⟩;have ew:Go.IntKind.i64.wrap ((d2:Int)+(psz p:Int))=(m:Int):=by rw [Go.IntWalk.i64_in _ (by have:=R.cx.bnd;omega)];omega
    rw [hm] at hd;have hf:=fin hd.cx hd.cy hc;rw [d7 hp] at hf;have h5:=ko 5000 (by decide);have h6:=ko 5001 (by decide);simp [R.gx,ew];refine Ent.refl ⟨_,_,_,_,_,hf.1,hf.2,H,G,?_⟩;rw [cB,hBe];have hpn:(psz p:Int)=p.n:=by have:=hpb.2.2.2.2.2 (by omega);rw [hps.1,this];simp
    simp [cA,p3,R.gy,k576,h5,h6,e5,g5,e6,g6,hpn]
   ·simp [hdK,p3]
    refine R.swap.kind (by omega) (λh4 j2 e2 R=>?_);have R:=R.swap
    cases ey:nxt Y with
    | nil =>
      exfalso
      have:=cH ex;rw [ex] at hxt;rw [ey] at hyf;simp [tos,frs,p3] at hxt hyf;omega
    | cons q y' =>
      rw [ey] at R;have hq:=(dw hi.py ey).1;have hqb:=hq.bounds;have hqs:=e9 hq;by_cases q2:q.kind=2
      ·simp [hdK,q2]
       refine R.swap.left ?_;simp;refine R.swap.take q2 (Nat.le_refl _) (λh5 R=>?_);have R:=R.swap;have e5:=R.o 5000 (by decide) (by decide) (by decide);have e6:=R.o 5001 (by decide) (by decide) (by decide);have e7:=R.o 576 (by decide) (by decide) (by decide);simp;have hc:fV X Y=some ([dO q (psz q)],p::x',bS q (psz q)::y'):=by simp [fV,ex,ey,q2,p3]
       have hf:=fin R.cx R.cy hc;rw [d7 hq] at hf;have hpsz:psz q=q.signs.length:=by have:=hqb.2.2.2.2.1 q2;unfold psz;omega
       have htk:q.signs.take (psz q)=q.signs:=List.take_of_length_le (by omega);rw [<- List.map_take,htk];refine jH (L:=BL) (P:=BP) (D:=BD) (Hl:=H) (Hp:=G) (by omega) (by omega) (by simp [e7,g7]) (by simp [e6,g6]) (λHp' h' k576 k5001 k5000 ko=>?_);have R:=R.rebase (h':=h') (ko 496 (by decide) (by decide) (by decide) (by decide)) (ko 544 (by decide) (by decide) (by decide) (by decide));simp;refine Ent.refl ⟨_,_,_,_,_,hf.1,hf.2,H,Hp',?_⟩;rw [cB,hBe];simp [cA,q2,R.gx,R.gy,k576,k5001,k5000,e5,g5]
      ·simp [hdK,q2]
       refine R.left ?_;simp;refine R.swap.left ?_;simp;refine aa.pure (yR (psz p) (psz q)) (by simp) ?_;have pp:=cH ex;have qp:=cH ey;obtain ⟨n,hn⟩:∃ n,min (psz p) (psz q)=n:=⟨_,rfl⟩;rw [hn];simp;refine R.kind (by omega) (λh5 i3 d3 R=>?_);rw [<- ex,dW,ex] at R;rw [<- ex,dW,ex];simp [hdK];refine R.swap.kind (by omega) (λh6 j3 e3 R=>?_);have R:=R.swap;rw [<- ey,dW,ey] at R;rw [<- ey,dW,ey];simp [hdK];have hc:fV X Y=some (if q.kind=1 then [dO p n] else if p.kind=1 then [dO q n] else [],bS p n::x',bS q n::y'):=by simp [fV,ex,ey,p3,q2,hn]
       obtain ⟨mx,hmx⟩:∃ m,d3+n=m:=⟨_,rfl⟩;obtain ⟨my,hmy⟩:∃ m,e3+n=m:=⟨_,rfl⟩;have ewx:Go.IntKind.i64.wrap ((d3:Int)+(n:Int))=(mx:Int):=by rw [Go.IntWalk.i64_in _ (by have:=R.cx.bnd;omega)];omega
       have ewy:Go.IntKind.i64.wrap ((e3:Int)+(n:Int))=(my:Int):=by rw [Go.IntWalk.i64_in _ (by have:=R.cy.bnd;omega)];omega
       have cxx:=R.cx.add (n:=n) (by omega);have cyy:=R.cy.add (n:=n) (by omega);rw [hmx] at cxx;rw [hmy] at cyy;have hf:=fin cxx cyy hc;have e5:=R.o 5000 (by decide) (by decide) (by decide);have e6:=R.o 5001 (by decide) (by decide) (by decide);have e7:=R.o 576 (by decide) (by decide) (by decide);have gx:=R.gx;have gy:=R.gy;by_cases p2:p.kind=2
       ·by_cases q1:q.kind=1
        ·simp only [q1,if_true] at hf
         simp [p2,q1];refine R.take p2 (n:=n) (by omega) (λh7 R=>?_);rw [hmx] at R;have e5:=R.o 5000 (by decide) (by decide) (by decide);have e6:=R.o 5001 (by decide) (by decide) (by decide);have e7:=R.o 576 (by decide) (by decide) (by decide);simp;rw [<- List.map_take];refine jH (L:=BL) (P:=BP) (D:=BD) (Hl:=H) (Hp:=G) (by omega) (by simp;omega) (by simp [e7,g7]) (by simp [e6,g6]) (λHp' h' k576 k5001 k5000 ko=>?_);have R:=R.rebase (h':=h') (ko 496 (by decide) (by decide) (by decide) (by decide)) (ko 544 (by decide) (by decide) (by decide) (by decide));simp [R.gy,ewy];refine Ent.refl ⟨_,_,_,_,_,hf.1,hf.2,H,Hp',?_⟩;rw [cB,hBe];have hpk:(dO p n).signs=p.signs.take n:=by simp [dO,p2]
         simp [cA,p2,hpk,R.gx,k576,k5001,k5000,e5,g5,List.map_take]
        ·have p1:¬ p.kind=1:=by omega
         simp only [q1,p1,if_false] at hf;simp [p2,q1,gx,gy,ewx,ewy];refine Ent.refl ⟨_,_,_,_,_,hf.1,hf.2,H,G,?_⟩;simp [hBe,e5,e6,e7,g5,g6,g7]
       ·have p1:p.kind=1:=by omega
        by_cases q1:q.kind=1
        ·simp only [q1,if_true] at hf
         simp [p2,q1];have f2:=fH (P:=BP) k3 k4 k5;have hpk:(dO p n).n=n:=by simp [dO,p2]
         refine rY (n:=(n:Int)) (L:=BL) (P:=BP) (D:=BD) (Hl:=H) (Hp:=G) (by omega) (by omega) (by omega) (by omega) (λq hq=>by have:=f2 q hq;omega) (by simp [e7,g7]) (by simp [e5,g5]) (by simp [e6,g6]) (λHl' h' k576 k5000 ko=>?_);have R:=R.rebase (h':=h') (ko 496 (by decide) (by decide) (by decide) (by decide)) (ko 544 (by decide) (by decide) (by decide) (by decide));simp [R.gx,R.gy,ewx,ewy];refine Ent.kill 5001 (Ent.refl ⟨_,_,_,_,_,hf.1,hf.2,Hl',none,?_⟩);rw [cB,hBe];have n0:0<n:=by omega
         simp [cA,p1,hpk,n0,k576,k5000]
        ·simp only [q1,p1,if_true,if_false] at hf
         simp [p2,q1];have q3:q.kind=3:=by omega
         have hpk:(dO q n).n=n:=by simp [dO,q2]
         refine lR (n:=(n:Int)) (D:=BD) (by omega) (by omega) (e7.trans g7) (λh' k576 ko=>?_);have R:=R.rebase (h':=h') (ko 496 (by decide)) (ko 544 (by decide));have h5:=ko 5000 (by decide);have h6:=ko 5001 (by decide);simp [R.gx,R.gy,ewx,ewy];refine Ent.refl ⟨_,_,_,_,_,hf.1,hf.2,H,G,?_⟩;rw [cB,hBe];simp [cA,q3,hpk,k576,h5,h6,e5,g5,e6,g6]
def ab (d:Doc):Int:=Go.IntKind.i64.wrap (d.fr+d.list.length)
def ba (r:Rep):Prop:=(1<=r.client/\r.client<=8)/\(0<=r.seq/\r.seq<=999999999)/\(0<=r.rev/\r.rev<=999999999)/\cT r.text/\aZ r.sent/\aZ r.buf/\aL r.sent=r.text.length/\aL r.buf=cE r.sent/\(if r.has then r.seq≠0 else idle r.sent)
theorem dz (r:Rep) (hl:dG r<=2 ^ 40):au Tryz.prog 190 [.agg r.row] (.one (.c (vb (ba r)) 1)):=by
 refine pci ag Tryz.func190 (λw0 base=>?_);unfold dG at hl;simp [Rep.row];intros;refine aa.pure (cg r.client 1 8) (by simp) ?_;by_cases c1:1<=r.client/\r.client<=8
 rotate_left
 ·have e:dc (1<=r.client/\r.client<=8)=false:=by rw [bQ];exact c1
  have hn:dc (ba r)=false:=by rw [bQ];exact λh=>c1 h.1
  simp [e,hn]
 simp [c1];refine aa.pure (cg r.seq 0 999999999) (by simp) ?_;by_cases c2:0<=r.seq/\r.seq<=999999999
 rotate_left
 ·have e:dc (0<=r.seq/\r.seq<=999999999)=false:=by rw [bQ];exact c2
  have hn:dc (ba r)=false:=by rw [bQ];exact λh=>c2 h.2.1
  simp [e,hn]
 simp [c2];refine aa.pure (cg r.rev 0 999999999) (by simp) ?_;by_cases c3:0<=r.rev/\r.rev<=999999999
 rotate_left
 ·have e:dc (0<=r.rev/\r.rev<=999999999)=false:=by rw [bQ];exact c3
  have hn:dc (ba r)=false:=by rw [bQ];exact λh=>c3 h.2.2.1
  simp [e,hn]
 simp [c3];refine aa.pure (gA r.text (by omega)) (by simp) ?_;by_cases c4:cT r.text
 rotate_left
 ·have hn:dc (ba r)=false:=by rw [bQ];exact λh=>c4 h.2.2.2.1
  simp [c4,hn]
 simp [c4];refine aa.pure (kC r.sent (by omega)) (by simp) ?_;by_cases c5:aZ r.sent
 rotate_left
 ·have hn:dc (ba r)=false:=by rw [bQ];exact λh=>c5 h.2.2.2.2.1
  simp [c5,hn]
 simp [c5];refine aa.pure (kC r.buf (by omega)) (by simp) ?_;by_cases c6:aZ r.buf
 rotate_left
 ·have hn:dc (ba r)=false:=by rw [bQ];exact λh=>c6 h.2.2.2.2.2.1
  simp [c6,hn]
 simp [c6];refine bq.quiet eok mix (by kernel_rfl) ?_;simp;refine ⟨_,_,du r.sent (by omega),by simp,?_⟩;by_cases c7:aL r.sent=r.text.length
 rotate_left
 ·have hn:dc (ba r)=false:=by rw [bQ];exact λh=>c7 h.2.2.2.2.2.2.1
  simp [c7,hn]
 simp [c7];refine ⟨_,_,du r.buf (by omega),by simp,?_⟩;simp;refine ⟨_,_,gT r.sent (by omega),by simp,?_⟩;by_cases c8:aL r.buf=cE r.sent
 rotate_left
 ·have hn:dc (ba r)=false:=by rw [bQ];exact λh=>c8 h.2.2.2.2.2.2.2.1
  simp [c8,hn]
 simp [c8]
 cases ch:r.has
 ·have e:dc (ba r)=dc (idle r.sent):=o5 ⟨λh=>by have:=h.2.2.2.2.2.2.2.2;rw [ch] at this;simpa using this,λh=>⟨c1,c2,c3,c4,c5,c6,c7,c8,by rw [ch];simpa using h⟩⟩
  simp;refine aa.pure (rZ r.sent (by omega)) (by simp) ?_;simp;exact e
 ·have e:dc (ba r)=dc (r.seq≠0):=o5 ⟨λh=>by have:=h.2.2.2.2.2.2.2.2;rw [ch] at this;simpa using this,λh=>⟨c1,c2,c3,c4,c5,c6,c7,c8,by rw [ch];simpa using h⟩⟩
  simp [e];by_cases h0:r.seq=0
  ·simp [h0]
  ·have:0<r.seq:=by omega
   simp [h0,this]
def Rep.zero:Rep:=⟨0,0,0,[],false,[],[]⟩
noncomputable def cL (c s v:Int) (t:List Int):Rep:=⟨c,s,v,t,false,bI t.length,bI t.length⟩
open Classical in
noncomputable def gn (r:Rep):Rep×Bool:=if ba r then (r,true) else (Rep.zero,false)
noncomputable def dx (c s v:Int) (t:List Int):Rep×Bool:=gn (cL c s v t)
theorem pH (n:Int):nL aC (bI n)<=1:=by
 unfold bI
 split<;>simp [nL,cf,aC]
theorem CY (c s v:Int) (t:List Int):dG (cL c s v t)<=t.length+2:=by
 have h:=pH t.length;unfold dG cL;simp only;omega
theorem Rep.zero_n:dG Rep.zero=0:=rfl
theorem oh (a0 a1 a2:Int) (a3:List Int) (n3:a3.length<=2 ^ 20) :
 au Tryz.prog 143 [.c (vi a0),.c (vi a1),.c (vi a2),.c (.s (a3.map bc))] (.tup [.agg (dx a0 a1 a2 a3).1.res,.c (.v (.bool (dx a0 a1 a2 a3).2)) 1]):=by
 refine pci ag Tryz.func143 (λw0 base=>?_);simp;intro b8 b9;refine ⟨by omega,λH1=>?_⟩;refine aa.pure (ia a3.length) (by simp) ?_;simp;intro H2;refine aa.pure (ia a3.length) (by simp) ?_;simp;intro H3;refine inl ag Tryz.func187 20000 (λw1 F=>?_);simp;intros;have hn:=CY a0 a1 a2 a3;refine aa.pure (dz (cL a0 a1 a2 a3) (by omega)) (by simp [Rep.row,cL]) ?_;by_cases h:ba (cL a0 a1 a2 a3)
 ·have e:dx a0 a1 a2 a3=(cL a0 a1 a2 a3,true):=by unfold dx gn;rw [if_pos h]
  simp [h,e,Rep.res];simp [cL]
 ·have e:dx a0 a1 a2 a3=(Rep.zero,false):=by unfold dx gn;rw [if_neg h]
  have e2:dc (ba (cL a0 a1 a2 a3))=false:=by rw [bQ];exact h
  simp [e2,e,Rep.res,Rep.zero]
theorem v7 (a0:Int) (_:sF a0) (a1:Int) (_:sF a1) (a2:Int) (_:sF a2) (a3:List Int) (_:a3.length<=9223372036854775807/\∀ n∈a3,sF n) (n3:a3.length<=2 ^ 20):au Tryz.prog 143 [.c (vi a0),.c (vi a1),.c (vi a2),.c (.s (a3.map bc))] (.tup [.agg (dx a0 a1 a2 a3).1.res,.c (.v (.bool (dx a0 a1 a2 a3).2)) 1]):=oh a0 a1 a2 a3 n3
theorem eV {α β:Type} {f:α->β} {l:List α} {i:Nat} (h:i<l.length):List.take i (l.map f)++[f l[i]]=List.take (i+1) (l.map f):=by
 rw [List.take_add_one];simp [h]
theorem iQ (o:List Part) (hl:nL aC o<=2 ^ 30):au Tryz.prog 194 [.c (.s (o.map Part.row))] (.one (.c (.s (o.map Part.row)) 3)):=by
 refine pci ag Tryz.func194 (λw0 base=>?_);have hle:=cF hl;simp;intro b;refine bg.intro eok (λx:Nat×Hd=>x.1<=o.length) (λx=>⟨27,0,[(9,.v (.int .i64 x.1)),(8,.v (.int .i64 o.length)),(7,.ro (o.map Part.row)),(3,.sl 96 x.2 3 0 x.1)],[(96,.rows x.2 3 ((o.take x.1).map Part.row) true)]⟩) (λx=>o.length - x.1) (0,some (b,0,0)) (by simp) (by simp) (λx hi=>?_);obtain ⟨i,H⟩:=x;simp only at hi ⊢;by_cases h:i<o.length
 ·have e:Go.IntKind.i64.wrap ((i:Int)+1)=((i+1:Nat):Int):=aB (by omega)
  have hm:min i o.length=i:=by omega
  have hs:=jy hl h;unfold aC at hs;simp [h,Part.row];intro b5;refine drw eok mix [0,1,2,3,4,6,7] [5,8,9,10,11,12] (.c 7 5 0 127 (.c 7 8 1 126 (.c 7 9 20 106 (.c 7 10 0 106 (.c 7 11 64 42 (.c 7 12 42 0 (.l 7 0) .s) .s) .s) .s) .s) .s) ?_;simp [hm];exact ⟨by omega,by omega,λH3=>⟨i+1,by omega,by omega,H3,⟨e,rfl,rfl⟩,rfl,eV (f:=Part.row) h⟩⟩
 ·have:i=o.length:=by omega
  subst this;simp [cut]
def Call.zero:Call:=⟨0,⟨#[]⟩,0,0,0,[],[]⟩
def ga (r:Rep):Call:=⟨2,⟨#[]⟩,r.client,r.seq,r.rev,r.sent,[]⟩
theorem va (r:Rep) (hl:dG r<=2 ^ 30):au Tryz.prog 195 [.agg r.row] (.one (.agg (ga r).res)):=by
 refine pci ag Tryz.func195 (λw0 base=>?_);unfold dG at hl;simp [Rep.row];intros;refine drw eok mix [0,1,2,3,4,5,6,7] [8,9,10] (.c 8 8 1 254 (.c 8 9 84 170 (.c 8 10 170 0 (.l 8 0) .s) .s) .s) ?_;simp;refine aa.pure (iQ r.sent (by omega)) (by simp) ?_;simp [ga,Call.res]
theorem Call.zero_n:fp Call.zero=0:=rfl
def fB (t:List Int) (s:List Int×Int) (p:Part):List Int×Int:=
 if p.kind=1 then (s.1++(t.drop s.2.toNat).take p.n.toNat,s.2+p.n) else if p.kind=2 then (s.1++p.signs,s.2) else (s.1,s.2+p.n)
def fC (o:List Part) (t:List Int):List Int×Int:=o.foldl (fB t) ([],0)
theorem pW {o:List Part} {t:List Int} {i:Nat} (h:i<o.length):fC (o.take (i+1)) t=fB t (fC (o.take i) t) o[i]:=by
 unfold fC;rw [<- List.take_append_getElem h,List.foldl_append];rfl
def dY (o:List Part) (t:List Int):Prop:=aX o/\cT t/\aL o=t.length
open Classical in
noncomputable def apply (o:List Part) (t:List Int):List Int×Bool:=if dY o t then ((fC o t).1,true) else ([],false)
theorem o9 {o:List Part} {t:List Int} (ho:∀ p∈o,am p):∀ (i:Nat),i<=o.length->(fC (o.take i) t).2=bW fK (o.take i)+bW fD (o.take i)/\(fC (o.take i) t).1.length<=200*i
 |0,_=>by simp [fC,bW]
 | i + 1, hi => by
   have hlt:i<o.length:=by omega
   obtain ⟨h1,h2⟩:=o9 ho i (by omega);have hb:=(ho _ (List.getElem_mem hlt)).bounds;rw [pW hlt,fR hlt,fR hlt];generalize fC (o.take i) t=s at h1 h2;obtain ⟨L,a⟩:=s;simp only at h1 h2;generalize bW fK (o.take i)=x1 at h1 ⊢;generalize bW fD (o.take i)=x2 at h1 ⊢;unfold fB fK fD;by_cases k1:o[i].kind=1
   ·simp [k1]
    omega
   ·by_cases k2:o[i].kind=2
    ·simp [k2];omega
    ·simp [k1,k2];omega
theorem iF {f:Part->Int} (hf:∀ p,am p->0<=f p):∀ {o:List Part} (_:∀ p∈o,am p) (i:Nat),bW f (o.take i)<=bW f o
 | [],_,i=>by simp
 | p :: o, ho, 0 => by
   have h1:=hf p (ho p (List.mem_cons_self ..));have h2:=iF hf (o:=o) (λq hq=>ho q (List.mem_cons_of_mem _ hq)) 0;simp only [List.take_zero,bW] at h2 ⊢;omega
 | p :: o, ho, i + 1 => by
   have h2:=iF hf (o:=o) (λq hq=>ho q (List.mem_cons_of_mem _ hq)) i;simp only [List.take_succ_cons,bW];omega
theorem zF {o:List Part} {t:List Int} (h:dY o t) {i:Nat} (hi:i<o.length):0<=(fC (o.take i) t).2/\(o[i].kind≠2->(fC (o.take i) t).2+o[i].n<=t.length)/\(fC (o.take i) t).2<=t.length:=by
 have ho:=h.1.1.1;have h1:=(o9 (t:=t) ho i (by omega)).1;have hf:aL o=bW fK o+bW fD o:=by unfold aL bU;rw [if_pos h.1.1]
 have h2:=iF (λp hp=>(GO hp).1) ho (i+1);have h3:=iF (λp hp=>(GR hp).1) ho (i+1);have h4:=d6 (f:=fK) (λp h=>GO h) (mG ho i);have h5:=d6 (f:=fD) (λp h=>GR h) (mG ho i);have h6:=fR (f:=fK) hi;have h7:=fR (f:=fD) hi;have h8:=h.2.2;have hb:=(ho _ (List.getElem_mem hi)).bounds;have k1:=GO (ho _ (List.getElem_mem hi));have k2:=GR (ho _ (List.getElem_mem hi));refine ⟨by omega,λhk=>?_,by omega⟩
 have:fK o[i]+fD o[i]=o[i].n:=by
  unfold fK fD;by_cases c1:o[i].kind=1
  ·simp [c1]
  ·simp [c1,hk]
 omega
theorem Du (o:List Part) (t:List Int) (hl:nL aC o<=2 ^ 40) (ht:t.length<=2 ^ 40):au Tryz.prog 241 [.c (.s (o.map Part.row)),.c (.s (t.map bc))] (.one (.c (vb (dY o t)) 1)):=by
 refine pci ag Tryz.func241 (λw0 base=>?_);simp;refine aa.pure (cz o hl) (by simp) ?_;by_cases c1:aX o
 rotate_left
 ·simp [c1,dY]
 simp [c1];refine aa.pure (gA t ht) (by simp) ?_;by_cases c2:cT t
 rotate_left
 ·simp [c2,dY]
 simp [c2];refine aa.pure (du o hl) (by simp) ?_;simp [dY,c1,c2]
theorem eD (o:List Part) (t:List Int) (hl:nL aC o<=2 ^ 40) (ht:t.length<=2 ^ 40):au Tryz.prog 214 [.c (.s (o.map Part.row)),.c (.s (t.map bc))] (.tup [.c (.s ((apply o t).1.map bc)) 1,.c (.v (.bool (apply o t).2)) 1]):=by
 refine pci ag Tryz.func214 (λw0 base=>?_);simp;refine aa.pure (Du o t hl ht) (by simp) ?_;by_cases hf:dY o t
 rotate_left
 ·have e:dc (dY o t)=false:=by rw [bQ];exact hf
  have e2:apply o t=([],false):=by unfold apply;rw [if_neg hf]
  simp [e,e2]
 have e:apply o t=((fC o t).1,true):=by unfold apply;rw [if_pos hf]
 have ho:=hf.1.1.1;have hlen:=hf.1.1.2;simp [hf,e];intro b;refine bg.intro eok (λx:Nat×Hd=>x.1<=o.length) (λx=>⟨50,0,[(17,.v (.int .i64 x.1)),(16,.v (.int .i64 o.length)),(15,.ro (o.map Part.row)),(7,.v (.int .i64 (fC (o.take x.1) t).2)),(6,.sl 224 x.2 1 0 (fC (o.take x.1) t).1.length),(1,.ro (t.map bc))],[(224,.rows x.2 1 ((fC (o.take x.1) t).1.map bc) true)]⟩) (λx=>o.length - x.1) (0,some (b,0,0)) (by simp) (by simp [fC]) (λx hi=>?_);obtain ⟨i,H⟩:=x;simp only at hi ⊢;by_cases h:i<o.length
 ·have hin:=zF hf h
  have hat:=o9 (t:=t) ho i hi;have hb:=(ho _ (List.getElem_mem h)).bounds;have hs:=pW (t:=t) h;generalize fC (o.take i) t=s at hin hat hs;obtain ⟨L,a⟩:=s;simp only at hin hat hs;obtain ⟨a',rfl⟩:∃ a':Nat,a=a':=⟨a.toNat,by omega⟩;obtain ⟨n,hn⟩:∃ n:Nat,o[i].n=n:=⟨o[i].n.toNat,by omega⟩;have e:Go.IntKind.i64.wrap ((i:Int)+1)=((i+1:Nat):Int):=aB (by omega);have ea:Go.IntKind.i64.wrap ((a':Int)+n)=(a':Int)+n:=Go.IntWalk.i64_in _ (by omega);rw [hn] at hin;simp [h,Part.row];intro b9;by_cases k1:o[i].kind=1
  ·have hle:a'+n<=t.length:=by have:=hin.2.1 (by omega);omega
   have hst:fB t (L,(a':Int)) o[i]=(L++(t.drop a').take n,(a':Int)+n):=by simp [fB,k1,hn]
   rw [hst] at hs;obtain ⟨m,hm⟩:∃ m,(t.drop a').take n=m:=⟨_,rfl⟩;have hcut:cut (t.map bc) a' n=m.map bc:=by rw [d8,<- hm];simp
   have hlen2:m.length=n:=by rw [<- hm];simp;omega
   rw [hm] at hs;simp [k1,hn,ea,hle,hcut];refine ⟨by omega,λH2=>⟨i+1,by omega,by omega,H2,?_⟩⟩;rw [hs];simp [e]
  ·by_cases k2:o[i].kind=2
   ·have hst:fB t (L,(a':Int)) o[i]=(L++o[i].signs,(a':Int)):=by simp [fB,k2]
    rw [hst] at hs;simp [k2];refine ⟨by omega,λH2=>⟨i+1,by omega,by omega,H2,?_⟩⟩;rw [hs];simp [e]
   ·have k3:o[i].kind=3:=by omega
    have hst:fB t (L,(a':Int)) o[i]=(L,(a':Int)+n):=by simp [fB,k3,hn]
    rw [hst] at hs;simp [k1,k2,hn,ea];refine ⟨i+1,by omega,by omega,H,?_⟩;rw [hs];simp [e]
 ·have he:o.take i=o:=List.take_of_length_le (by omega)
  rw [he];simp [h]
theorem kl (o:List Part) (t:List Int):(apply o t).1.length<=2 ^ 17:=by
 unfold apply
 split
 ·rename_i h
  have h1:=(o9 (t:=t) h.1.1.1 o.length (by omega)).2;rw [List.take_length] at h1;have:=h.1.1.2;simp only;omega
 ·simp
abbrev lX (o:List Part):List CD:=[.s (o.map Part.row)]
open Classical in
noncomputable def ao:List (List Part)->List Int->Option (List Int)
 | [],t=>some t
 |o::l,t=>if (apply o t).2=true then ao l (apply o t).1 else none
open Classical in
noncomputable def fX (l:List (List Part)) (t:List Int):List Int×Bool:=
 if cT t then match ao l t with
  |some u=>(u,true)
  |none=>([],false)
 else ([],false)
theorem mw {l:List (List Part)} {i:Nat} {u:List Int} (h:i<l.length):ao (l.drop i) u=if (apply l[i] u).2=true then ao (l.drop (i+1)) (apply l[i] u).1 else none:=by
 rw [List.drop_eq_getElem_cons h,ao]
theorem vC {o:List Part} {t:List Int} (h:dY o t):∀ (i:Nat),i<=o.length->((fC (o.take i) t).1.length:Int)=bW fK (o.take i)+bW fP (o.take i)/\cr (fC (o.take i) t).1
 |0,_=>by simp [fC,bW,cr]
 | i + 1, hi => by
   have hlt:i<o.length:=by omega
   obtain ⟨h1,h2⟩:=vC h i (by omega);have hin:=zF h hlt;have hpo:=h.1.1.1 _ (List.getElem_mem hlt);have hb:=hpo.bounds;rw [pW hlt,fR hlt,fR hlt];generalize fC (o.take i) t=s at h1 h2 hin;generalize o[i]=p at hin hpo hb;unfold fB;rw [show fK p=(if p.kind=1 then p.n else 0) from rfl,show fP p=(if p.kind=2 then (p.signs.length:Int) else 0) from rfl];rcases hb.1 with k|k|k
   ·have:=hin.2.1 (by omega)
    have e:((t.drop s.2.toNat).take p.n.toNat).length=p.n.toNat:=by simp;omega
    refine ⟨?_,?_⟩
    ·simp only [k,if_true,List.length_append,e]
     have k2:¬ (1:Int)=2:=by decide
     simp only [k2,if_false];omega
    simp only [k,if_true];intro n hn;rcases List.mem_append.1 hn with hn|hn
    ·exact h2 n hn
    ·exact h.2.1.2 n (List.mem_of_mem_drop (List.mem_of_mem_take hn))
   ·refine ⟨by simp [k];omega,?_⟩
    have k1:¬ p.kind=1:=by omega
    simp only [k,if_true];rw [gd k] at hpo;intro n hn;rcases List.mem_append.1 hn with hn|hn
    ·exact h2 n hn
    ·exact hpo.2.2 n hn
   ·exact ⟨by simp [k];omega,by simpa [k] using h2⟩
theorem eM {o:List Part} {t:List Int} (h:dY o t):cT (apply o t).1/\((apply o t).1.length:Int)=cE o:=by
 have h1:=vC h o.length (Nat.le_refl _);rw [List.take_length] at h1;have e:apply o t=((fC o t).1,true):=by unfold apply;rw [if_pos h]
 have ht:cE o=bW fK o+bW fP o:=by unfold cE bU;rw [if_pos h.1.1]
 have h3:=h.1.2.2;rw [e];refine ⟨⟨by simp only;omega,h1.2⟩,by simp only;omega⟩
theorem et {o:List Part} {t:List Int}:(apply o t).2=true ↔ dY o t:=by
 unfold apply
 split<;>simp_all
def dF (s:ByteArray):Prop:=(1<=s.size/\s.size<=8)/\∀ (i:Nat) (h:i<s.size),97<=s[i].toNat/\s[i].toNat<=122
def bN (e:Entry):Prop:=(1<=e.client/\e.client<=8)/\(1<=e.seq/\e.seq<=1000000000)/\aZ e.o
def oy (d:Doc):Prop:=∀ (i:Nat) (h:i<d.seen.length),(1<=d.seen[i].client/\d.seen[i].client<=8)/\(1<=d.seen[i].seq/\d.seen[i].seq<=1000000000)/\(1<=d.seen[i].rev/\d.seen[i].rev<=ab d)/\(∀ h0:0<i,d.seen[i - 1].client<d.seen[i].client)
def aR (d:Doc):Prop:=dF d.name/\(0<=d.fr/\d.fr<=999999000)/\cT d.text/\d.list.length<=8/\(∀ e∈d.list,bN e)/\(ao (d.list.map Entry.o) d.text).isSome=true/\oy d
open Classical in
noncomputable def bT (d:Doc) (rev:Int):List Int×Bool:=if aR d/\d.fr<=rev/\rev<=ab d then fX ((d.list.take (rev - d.fr).toNat).map Entry.o) d.text else ([],false)
noncomputable def bX (d:Doc):List Int:=(bT d (ab d)).1
open Classical in
noncomputable def aS (d:Doc) (c:Int):Seen×Bool:=match d.seen.find? (λs=>decide (s.client=c)) with
 |some s=>(s,true)
 |none=>(⟨0,0,0⟩,false)
noncomputable def df (r:Rep):Rep:=⟨r.client,r.seq+1,r.rev,r.text,true,r.buf,bI (cE r.buf)⟩
open Classical in
noncomputable def cM (r:Rep):Rep×Call×Bool:=if ba r/\r.has=false/\¬ idle r.buf/\r.seq≠999999999 then (df r,⟨2,⟨#[]⟩,r.client,r.seq+1,r.rev,r.buf,[]⟩,true) else (Rep.zero,⟨0,⟨#[]⟩,0,0,0,[],[]⟩,false)
theorem j6 (r:Rep) (hl:dG r<=2 ^ 30):au Tryz.prog 189 [.agg r.row] (.one (.agg r.res)):=by
 refine pci ag Tryz.func189 (λw0 base=>?_);unfold dG at hl;simp [Rep.row];intros;refine ⟨by omega,λH1=>?_⟩;refine aa.pure (iQ r.sent (by omega)) (by simp) ?_;simp;intros;refine aa.pure (iQ r.buf (by omega)) (by simp) ?_;simp [Rep.res]
theorem CO (r:Rep):dG (df r)<=dG r+1:=by
 have:=pH (cE r.buf);unfold dG df;simp only;omega
theorem eE {r:Rep} (h:¬ (ba r/\r.has=false/\¬ idle r.buf/\r.seq≠999999999)):cM r=(Rep.zero,Call.zero,false):=by unfold cM;rw [if_neg h];rfl
theorem gK {r:Rep} (h:ba r/\r.has=false/\¬ idle r.buf/\r.seq≠999999999):cM r=(df r,ga (df r),true):=by unfold cM;rw [if_pos h];rfl
theorem nf (r:Rep) (hl:dG r<=2 ^ 20):au Tryz.prog 147 [.agg r.row] (.tup [.agg (cM r).1.res,.agg (cM r).2.1.res,.c (.v (.bool (cM r).2.2)) 1]):=by
 refine pci ag Tryz.func147 (λw0 base=>?_);have hbuf:nL aC r.buf<=2 ^ 20:=by unfold dG at hl;omega
 simp [Rep.row];intros;refine aa.pure (dz r (by omega)) (by simp [Rep.row]) ?_;by_cases c1:ba r
 rotate_left
 ·have e:=eE (r:=r) (λh=>c1 h.1)
  have e2:dc (ba r)=false:=by rw [bQ];exact c1
  simp [e2,e,Rep.res,Rep.zero,Call.res,Call.zero]
 simp [c1];by_cases ch:r.has=false
 rotate_left
 ·have e:=eE (r:=r) (λh=>ch h.2.1)
  have ch2:r.has=true:=by simpa using ch
  simp [ch2,e,Rep.res,Rep.zero,Call.res,Call.zero]
 simp [ch];refine aa.pure (rZ r.buf (by omega)) (by simp) ?_;by_cases ci:idle r.buf
 ·have e:=eE (r:=r) (λh=>h.2.2.1 ci)
  simp [ci,e,Rep.res,Rep.zero,Call.res,Call.zero]
 have ci2:dc (idle r.buf)=false:=by rw [bQ];exact ci
 by_cases cs:r.seq=999999999
 ·have e:=eE (r:=r) (λh=>h.2.2.2 cs)
  simp [ci2,cs,e,Rep.res,Rep.zero,Call.res,Call.zero]
 have e:=gK (r:=r) ⟨c1,ch,ci,cs⟩;have hs:=c1.2.1;have ew:Go.IntKind.i64.wrap (r.seq+1)=r.seq+1:=Go.IntWalk.i64_in _ (by omega);simp [ci2,cs];refine aa.pure (j6 r (by omega)) (by simp [Rep.row,ch]) ?_;simp [Rep.res,ew];intros;refine aa.pure (iQ r.buf (by omega)) (by simp) ?_;simp;intros;refine aa.pure (gT r.buf (by omega)) (by simp) ?_;simp;refine aa.pure (ia (cE r.buf)) (by simp) ?_;simp;intros;refine drw eok mix [0,1,5] [2,3,4] (.c 3 2 2 5 (.c 3 3 4 1 (.c 3 4 0 1 (.l 3 1) .s) .s) .s) ?_;simp;have hn:=CO r;refine aa.pure (va (df r) (by omega)) (by simp [Rep.row,df,ch]) ?_;simp [e,df,Call.res,ga]
end Go.Proofs.YthckkpphnmmfdaaGreatDoor
