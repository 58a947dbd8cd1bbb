import Derived.Test.YtibkifnmhkealaaGreatDoorPA
import Derived.Test.YtibkifnmhkealaaGreatDoorMF
namespace Go.Proofs.YtibkifnmhkealaaGreatDoor
set_option maxRecDepth 20000
abbrev XR:=(List Part×List Part)×List Part×List Part
def eh (x y:List Part):Option XR:=
 match nxt x with
 | p :: x' => if p.kind = 2 then some (([dI p (psz p)], [⟨1, p.signs.length, []⟩]), aV p (psz p) :: x', y) else match nxt y with
   | q :: y' => if q.kind = 2 then some (([⟨1, q.signs.length, []⟩], [dI q (psz q)]), p :: x', aV q (psz q) :: y') else
       some ((if q.kind=1 then [dI p (min (psz p) (psz q))] else [],if p.kind=1 then [dI q (min (psz p) (psz q))] else []),aV p (min (psz p) (psz q))::x',aV q (min (psz p) (psz q))::y')
   | []=>none
 | [] => match nxt y with
   |q::y'=>if q.kind=2 then some (([⟨1,q.signs.length,[]⟩],[dI q (psz q)]),[],aV q (psz q)::y') else none
   | []=>none
structure TInv (x y:List Part):Prop where
 px:∀ p∈x,ar p
 py:∀ p∈y,ar p
 b:frs x=frs y
structure TNext (x y:List Part) (r:XR):Prop where
 inv:TInv r.2.1 r.2.2
 dec:tsz r.2.1+tsz r.2.2<tsz x+tsz y
 okx:∀ p∈r.1.1,ar p
 oky:∀ p∈r.1.2,ar p
 lenx:r.1.1.length<=1
 leny:r.1.2.length<=1
theorem Fb {p:Part} (h:ar p):ar ⟨1,p.signs.length,[]⟩:=by
 have:=h.bounds;exact .inl ⟨.inl rfl,by simp only;omega,rfl⟩
theorem eB {x y:List Part} (hi:TInv x y) {r:XR} (h:eh x y=some r):TNext x y r:=by
 have hx:=sb x;have hy:=sb y;have hxt:=iu x;have hyf:=iu y;have hb:=hi.b;unfold eh at h
 cases ex:nxt x with
 | nil =>
   rw [ex] at h hx hxt
   cases ey:nxt y with
   |nil=>simp [ey] at h
   | cons q y' =>
     rw [ey] at hy hyf;have hq:=eb hi.py ey;have hp:=dn ey;simp only [ey] at h
     split at h
     ·rename_i k
      cases h
      have hs:=fH hq.1 (Nat.le_refl _);refine ⟨⟨by simp,gh hi.py ey (Nat.le_refl _),?_⟩,?_,?_,?_,by simp,by simp⟩
      ·simp [frs,k] at hxt hyf ⊢;omega
      ·simp [tsz] at hx hy ⊢;omega
      ·intro p hp;simp at hp;subst hp;exact Fb hq.1
      ·intro p hp;simp at hp;subst hp;exact je hq.1 (Nat.le_refl _)
     ·cases h
 | cons p x' =>
   rw [ex] at h hx hxt;have hp:=eb hi.px ex;have hpp:=dn ex;simp only at h
   split at h
   ·rename_i k
    cases h
    have hs:=fH hp.1 (Nat.le_refl _);refine ⟨⟨gh hi.px ex (Nat.le_refl _),hi.py,?_⟩,?_,?_,?_,by simp,by simp⟩
    ·simp [frs,k] at hxt ⊢;omega
    ·simp [tsz] at hx ⊢;omega
    ·intro q hq;simp at hq;subst hq;exact je hp.1 (Nat.le_refl _)
    ·intro q hq;simp at hq;subst hq;exact Fb hp.1
   ·rename_i k3
    cases ey:nxt y with
    |nil=>simp [ey] at h
    | cons q y' =>
      rw [ey] at hy hyf;have hq:=eb hi.py ey;have hqp:=dn ey;simp only [ey] at h
      split at h
      ·rename_i k
       cases h
       have hs:=fH hq.1 (Nat.le_refl _);refine ⟨⟨hp.2,gh hi.py ey (Nat.le_refl _),?_⟩,?_,?_,?_,by simp,by simp⟩
       ·simp [frs,k,k3] at hxt hyf ⊢;omega
       ·simp [tsz] at hx hy ⊢;omega
       ·intro p hp;simp at hp;subst hp;exact Fb hq.1
       ·intro p hp;simp at hp;subst hp;exact je hq.1 (Nat.le_refl _)
      ·rename_i k2
       cases h
       have hn1:min (psz p) (psz q)<=psz p:=by omega
       have hn2:min (psz p) (psz q)<=psz q:=by omega
       have hs1:=fH hp.1 hn1;have hs2:=fH hq.1 hn2;refine ⟨⟨gh hi.px ex hn1,gh hi.py ey hn2,?_⟩,?_,?_,?_,?_,?_⟩
       ·simp [frs,k2,k3] at hxt hyf ⊢;omega
       ·simp [tsz] at hx hy ⊢;omega
       ·intro r hr
        simp only at hr
        split at hr
        ·simp at hr;subst hr;exact je hp.1 hn1
        ·simp at hr
       ·intro r hr
        simp only at hr
        split at hr
        ·simp at hr;subst hr;exact je hq.1 hn2
        ·simp at hr
       ·simp only;split<;>simp
       ·simp only;split<;>simp
noncomputable def xfK:Nat->List Part->List Part->List Part×List Part
 |0,_,_=>([],[])
 | k + 1, x, y => match eh x y with
   |none=>([],[])
   |some r=>(r.1.1++(xfK k r.2.1 r.2.2).1,r.1.2++(xfK k r.2.1 r.2.2).2)
noncomputable def xf (x y:List Part):List Part×List Part:=xfK (tsz x+tsz y) x y
theorem IP:∀ (k m:Nat) {x y:List Part},TInv x y->tsz x+tsz y<=k->tsz x+tsz y<=m->xfK k x y=xfK m x y
 |0,0,_,_,_,_,_=>rfl
 | k + 1, 0, x, y, hi, h, h2 => by
   rw [xfK,xfK]
   cases hs:eh x y with
   |none=>rfl
   |some r=>have:=(eB hi hs).dec;omega
 | 0, m + 1, x, y, hi, h, h2 => by
   rw [xfK,xfK]
   cases hs:eh x y with
   |none=>rfl
   |some r=>have:=(eB hi hs).dec;omega
 | k + 1, m + 1, x, y, hi, h, h2 => by
   rw [xfK,xfK]
   cases hs:eh x y with
   |none=>rfl
   | some r =>
     have hn:=eB hi hs;have:=hn.dec;simp only;rw [IP k m hn.inv (by omega) (by omega)]
theorem FU {x y:List Part} (h:eh x y=none):xf x y=([],[]):=by
 unfold xf
 cases tsz x+tsz y with
 |zero=>rfl
 |succ k=>rw [xfK,h]
theorem Ls {x y:List Part} (hi:TInv x y) {r:XR} (h:eh x y=some r):xf x y=(r.1.1++(xf r.2.1 r.2.2).1,r.1.2++(xf r.2.1 r.2.2).2):=by
 have hn:=eB hi h;have hd:=hn.dec;unfold xf;obtain ⟨k,hk⟩:∃ k,tsz x+tsz y=k+1:=⟨tsz x+tsz y - 1,by omega⟩;rw [hk,xfK,h];simp only;rw [IP k (tsz r.2.1+tsz r.2.2) hn.inv (by omega) (by omega)]
theorem BI:∀ {o:List Part},(∀ p∈o,ar p)->(frs o:Int)=bN (nu 2) o
 | [],_=>rfl
 | p :: o, h => by
   have ih:=BI (λq hq=>h q (List.mem_cons_of_mem _ hq));have hp:=fC (h p (List.mem_cons_self ..));simp only [frs,bN,nu]
   split<;>simp<;>omega
theorem AX:∀ {o:List Part},(∀ p∈o,ar p)->(tos o:Int)=bN (nu 3) o
 | [],_=>rfl
 | p :: o, h => by
   have ih:=AX (λq hq=>h q (List.mem_cons_of_mem _ hq));have hp:=fC (h p (List.mem_cons_self ..));simp only [tos,bN,nu]
   split<;>simp<;>omega
theorem lf {o:List Part} (h:aR o):(frs o:Int)=aO o:=by
 rw [BI h.1.1,fR (λp hp=>PI (h.1.1 p hp)),kT];unfold aO cu;rw [if_pos h.1]
theorem qQ {o:List Part} (h:aR o):(tos o:Int)=fp o:=by
 rw [AX h.1.1,fR (λp hp=>PH (h.1.1 p hp)),kT];unfold fp cu;rw [if_pos h.1]
theorem Ey:∀ (o:List Part),tsz o<=frs o+tos o
 | []=>by simp [tsz]
 | p :: o => by
   have:=Ey o;simp only [tsz,frs,tos]
   split<;>split<;>omega
theorem og {o:List Part} (h:aR o):tsz o<=400:=by
 have h1:=Ey o;have h2:=lf h;have h3:=qQ h;have:=h.2;omega
theorem GD {a b:List Part} (ha:aR a) (hb:aR b) (h:fp a=aO b):CInv a b:=by
 have h2:=lf hb;have h3:=qQ ha;exact ⟨ha.1.1,hb.1.1,by omega⟩
theorem vF {a b:List Part} (ha:aR a) (hb:aR b) (h:aO a=aO b):TInv a b:=by
 have h2:=lf hb;have h3:=lf ha;exact ⟨ha.1.1,hb.1.1,by omega⟩
open Classical in
noncomputable def da (a b:List Part):List Part×Bool:=
 if aR a/\aR b/\fp a=aO b then (if aR (normal (cmp a b)) then (normal (cmp a b),true) else ([],false)) else ([],false)
open Classical in
noncomputable def ap (a b:List Part):List Part×List Part×Bool:=
 if aR a/\aR b/\aO a=aO b then (if aR (normal (xf a b).1)/\aR (normal (xf a b).2) then (normal (xf a b).1,normal (xf a b).2,true) else ([],[],false)) else ([],[],false)
def cur (o:List Part) (i d:Nat):List Part:=
 match o.drop i with
 | []=>[]
 |p::l=>aV p d::l
theorem BZ {o:List Part} {i d:Nat} (h:o.length<=i):cur o i d=[]:=by unfold cur;rw [List.drop_eq_nil_of_le h]
theorem xU {o:List Part} {i d:Nat} (h:i<o.length):cur o i d=aV o[i] d::o.drop (i+1):=by unfold cur;rw [List.drop_eq_getElem_cons h]
theorem xT {o:List Part} {i:Nat}:cur o i 0=o.drop i:=by
 unfold cur
 cases o.drop i with
 |nil=>rfl
 |cons p l=>simp [EN]
theorem KM {o:List Part} (ho:∀ p∈o,ar p) {i:Nat} (h:i<o.length):nxt (cur o i (psz o[i]))=nxt (cur o (i+1) 0):=by
 rw [xU h,xT];have:=fH (ho _ (List.getElem_mem h)) (Nat.le_refl _);simp [nxt,this]
theorem KK {o:List Part} (ho:∀ p∈o,ar p) {i d:Nat} (h:i<o.length) (hd:d<psz o[i]):nxt (cur o i d)=cur o i d:=by
 rw [xU h];have:=fH (ho _ (List.getElem_mem h)) (Nat.le_of_lt hd);have h2:¬ psz (aV o[i] d)=0:=by omega
 simp [nxt,h2]
theorem KN {o:List Part} {i d n:Nat} (h:i<o.length) {p:Part} {l:List Part} (hc:cur o i d=p::l):aV p n::l=cur o i (d+n):=by
 rw [xU h] at hc ⊢
 cases hc
 rw [C5]
open Go.AM
theorem bu {k j:Nat} {o:AObj} {h:AH} (hne:j≠k):AH.get ((k,o)::h) j=AH.get h j:=if_neg hne
theorem jE (p:Part) (h:ar p):ai Tryz.prog 270 [.agg p.row] (.one (.c (vi (psz p)) 1)):=by
 refine pci ae Tryz.func270 (λw0 base=>?_);have hp:=fC h;have e:Go.IntKind.i64.wrap (p.n+(p.signs.length:Int))=p.n+p.signs.length:=Go.IntWalk.i64_in _ (by omega);rw [hp.1];simp [Part.row,e]
def hdV:List Part->AV
 | []=>.agg [.v (.int .i64 0),.v (.int .i64 0),.nil]
 |p::_=>.agg [.v (.int .i64 p.kind),.v (.int .i64 p.n),.ro (p.signs.map al)]
theorem Hn {w0:World} {bF bG:Nat->Prop} {bl:Bool} {st:ASt} {dst:Option Nat} {K:ASt->Prop} {kx b kb:Nat} {l:List Part} (hk:kx+16<kb) (hs:∀ p∈l,ar p)
 (g:st.h.get kx=.vars b 235 [.ro (l.map Part.row)])
 (hK:∀ h',AH.get h' kx=.vars b 235 [.ro ((nxt l).map Part.row)]->(∀ q,q≠kx->q<kb->AH.get h' q=st.h.get q)->bk ⟨st.n,st.kb,st.t,h'⟩ dst (hdV (nxt l)) K) :
 aa ⟨Tryz.prog,tt,w0,⟨bF,bG,bl,λ_=>True⟩⟩ 268 [.p kx b 0] st dst K:=by
 refine inl ae Tryz.func268 kb (λw1 F=>?_);simp;intro b2;have hkk:¬ kx=kb+32:=by omega
 have hkk2:¬ kb+32=kx:=by omega
 refine tf eok (λm:List Part=>nxt m=nxt l/\∀ p∈m,p∈l) (λm=>⟨40,kb,[(0,.p kx b 0),(2,.p (kb+32) b2 0)],(kx,.vars b 235 [.ro (m.map Part.row)])::(kb+32,.vars b2 193 [.v (.int .i64 0),.v (.int .i64 0),.nil])::st.h⟩) (λm=>m.length) l ⟨rfl,λ_ h=>h⟩ (by simp [hkk,g]) (λm hm=>?_)
 ·cases m with
  | nil =>
    have hn:nxt l=[]:=by rw [<- hm.1];rfl
    rw [hn] at hK;simp [hkk2];refine hK _ (by simp [hkk]) (λq q1 q2=>?_)
    repeat (first|exact rfl|refine (bu (by omega)).trans ?_)
  | cons p m =>
    have hp:=hs p (hm.2 p (List.mem_cons_self ..));simp [Part.row];refine aa.pure (jE p hp) (by simp [Part.row]) ?_;by_cases hz:psz p=0
    ·simp [hz,hkk,hkk2]
     refine ⟨m,⟨by rw [<- hm.1];simp [nxt,hz],λq hq=>hm.2 q (List.mem_cons_of_mem _ hq)⟩,by omega,?_⟩;simp [cut];exact List.take_of_length_le (by simp)
    ·have hn:nxt l=p::m:=by rw [<- hm.1];simp [nxt,hz]
     rw [hn] at hK;have hm0:¬ (m.length:Int)+1=0:=by omega
     simp [hz,hkk2,hm0];refine hK _ ?_ (λq q1 q2=>?_)
     ·simp [hkk,Part.row]
     repeat (first|exact rfl|refine (bu (by omega)).trans ?_)
theorem KH (s:List Int) {n:Nat} (_h:n<=s.length):cut (s.map al) 0 n=(s.take n).map al:=by
 unfold cut
 split
 ·rename_i h2
  rw [List.take_of_length_le (by simp at h2;omega)]
 ·simp [List.map_take]
theorem KJ (s:List Int) {n:Nat}:cut (s.map al) n (s.length - n)=(s.drop n).map al:=by
 unfold cut
 split
 ·rename_i h2
  rw [h2.1];simp
 ·rw [List.take_of_length_le (by simp),List.map_drop]
theorem zz {w0:World} {bF bG:Nat->Prop} {bl:Bool} {st:ASt} {dst:Option Nat} {K:ASt->Prop} {kx b n:Nat} {p:Part} {l:List Part} (hk:kx<15000) (hp:ar p) (hn:n<=psz p) (hl:l.length<=2 ^ 20)
 (g:st.h.get kx=.vars b 235 [.ro ((p::l).map Part.row)])
 (hK:∀ h',AH.get h' kx=.vars b 235 [.ro ((aV p n::l).map Part.row)]->(∀ q,q≠kx->q<15000->AH.get h' q=st.h.get q)->bk ⟨st.n,st.kb,st.t,h'⟩ dst (hdV [dI p n]) K) :
 aa ⟨Tryz.prog,tt,w0,⟨bF,bG,bl,λ_=>True⟩⟩ 271 [.p kx b 0,.v (.int .i64 n)] st dst K:=by
 refine zt ae Tryz.func271 (by kernel_rfl) rfl rfl rfl (Nat.le_of_ble_eq_true rfl) 20000 (λw1 F=>?_);have hps:=fC hp;have hb:=hp.bounds;have k0:¬ kx=20064:=by omega
 have k1:¬ kx=20080:=by omega
 have k2:¬ kx=20096:=by omega
 have k3:¬ kx=20112:=by omega
 have k4:¬ kx=20608:=by omega
 have j0:¬ 20064=kx:=by omega
 have j1:¬ 20080=kx:=by omega
 have j2:¬ 20096=kx:=by omega
 have j3:¬ 20112=kx:=by omega
 have j4:¬ 20608=kx:=by omega
 simp [g,Part.row,k0];intro b4 b5
 refine be.cut (λx:Nat×Nat=>⟨48,20000,[(0,.p kx b 0),(1,.v (.int .i64 n)),(4,.p 20064 b4 0),(5,.p 20080 b5 0),(6,.p 20096 x.1 0),(7,.p 20112 x.2 0)],
  (20096,.vars x.1 193 [.v (.int .i64 p.kind),.v (.int .i64 p.n),.ro (p.signs.map al)])::(20112,.vars x.2 193 [.v (.int .i64 p.kind),.v (.int .i64 p.n),.ro (p.signs.map al)])::(20080,.vars b5 193 [.v (.int .i64 p.kind),.v (.int .i64 p.n),.ro (p.signs.map al)])::(20064,.vars b4 193 [.v (.int .i64 0),.v (.int .i64 0),.nil])::st.h⟩) ?_ ?_
 ·refine drw eok mix [0,1] [2,3,4,5] (.c 2 2 0 3 (.c 2 3 0 3 (.c 2 4 2 1 (.c 2 5 1 0 (.l 2 0) .s) .s) .s) (.c 2 3 0 3 (.c 2 2 0 3 (.c 2 4 2 1 (.c 2 5 1 0 (.l 2 0) .s) .s) .s) .s)) ?_
  simp;rw [Trc];refine ⟨?_,?_⟩<;>simp
 rintro ⟨b6,b7⟩
 simp;by_cases hk2:p.kind=2
 ·simp [hk2]
  refine drw eok mix [0,1,2,3,4,5,6,7,8,10] [9,11] (.c 10 9 962 61 (.c 10 11 61 0 (.l 10 0) .s) .s) ?_;have hns:n<=p.signs.length:=by have:=hb.2.2.2.2.1 hk2;omega
  simp [hns];refine drw eok mix [0,1,3,4,5,6,7,9,10] [2,8,11] (.c 9 2 128 383 (.c 9 8 4 379 (.c 9 11 377 2 (.l 9 2) .s) .s) .s) ?_
  have ct:cut ([vi p.kind,vi p.n,CD.s (p.signs.map al)]::l.map Part.row) 1 l.length=l.map Part.row:=by
   simp [cut];exact List.take_of_length_le (by simp)
  have hv:hdV [dI p n]=.agg [.v (.int .i64 2),.v (.int .i64 p.n),.ro ((p.signs.map al).take n)]:=by simp [hdV,dI,hk2,List.map_take]
  rw [hv] at hK;simp [g,Part.row,k0,k1,k2,k3,k4,j0,j3,ct,KH p.signs hns,KJ p.signs];intro b8;refine ⟨by omega,λH=>⟨_,Eq (kx:=kx) (b:=b) (T:=235) (cells:=[.sl 20608 H 3 0 (1+l.length)]) (j:=0) (k:=20608) (sz:=3) (off:=0) (len:=1+l.length) (H:=H) (rows:=(aV p n).row::l.map Part.row) (own:=false) ?_ rfl ?_ (by simp;omega),?_⟩⟩
  ·simp [k0]
  ·simp [j4,Part.row,aV,hk2]
  ·refine hK _ ?_ (λq q1 q2=>?_)
   ·simp [cut,Nat.add_comm]
   ·repeat (first|exact rfl|refine (bu (by omega)).trans ?_)
 ·simp [hk2]
  refine drw eok mix [0,1,2,3,4,5,7] [6,8] (.c 7 6 66 61 (.c 7 8 61 0 (.l 7 0) .s) .s) ?_;have e:Go.IntKind.i64.wrap (p.n - (n:Int))=p.n - n:=Go.IntWalk.i64_in _ (by omega);simp [e];refine drw eok mix [0,1,3,4,5,6,7,9,10] [2,8,11] (.c 9 2 128 383 (.c 9 8 4 379 (.c 9 11 377 2 (.l 9 2) .s) .s) .s) ?_
  have ct:cut ([vi p.kind,vi p.n,CD.s (p.signs.map al)]::l.map Part.row) 1 l.length=l.map Part.row:=by
   simp [cut];exact List.take_of_length_le (by simp)
  have hv:hdV [dI p n]=.agg [.v (.int .i64 p.kind),.v (.int .i64 n),.ro (p.signs.map al)]:=by simp [hdV,dI,hk2]
  rw [hv] at hK;simp [g,Part.row,k0,k1,k2,k3,k4,j0,j3,ct];intro b8;refine ⟨by omega,λH=>⟨_,Eq (kx:=kx) (b:=b) (T:=235) (cells:=[.sl 20608 H 3 0 (1+l.length)]) (j:=0) (k:=20608) (sz:=3) (off:=0) (len:=1+l.length) (H:=H) (rows:=(aV p n).row::l.map Part.row) (own:=false) ?_ rfl ?_ (by simp;omega),?_⟩⟩
  ·simp [k0]
  ·simp [j4,Part.row,aV,hk2]
  ·refine hK _ ?_ (λq q1 q2=>?_)
   ·simp [cut,Nat.add_comm]
   ·repeat (first|exact rfl|refine (bu (by omega)).trans ?_)
theorem Ew {w0:World} {bF bG:Nat->Prop} {bl:Bool} {st:ASt} {dst:Option Nat} {K:ASt->Prop} {kx b:Nat} {p:Part} {l:List Part} (hk:kx<14000) (hp:ar p) (hl:l.length<=2 ^ 20)
 (g:st.h.get kx=.vars b 235 [.ro ((p::l).map Part.row)])
 (hK:∀ h',AH.get h' kx=.vars b 235 [.ro ((aV p (psz p)::l).map Part.row)]->(∀ q,q≠kx->q<14000->AH.get h' q=st.h.get q)->bk ⟨st.n,st.kb,st.t,h'⟩ dst (hdV [p]) K) :
 aa ⟨Tryz.prog,tt,w0,⟨bF,bG,bl,λ_=>True⟩⟩ 269 [.p kx b 0] st dst K:=by
 refine inl ae Tryz.func269 14000 (λw1 F=>?_);have k0:¬ kx=14032:=by omega
 have j0:¬ 14032=kx:=by omega
 simp [g,Part.row,k0];intro b2;refine aa.pure (jE p hp) (by simp [Part.row]) ?_;simp;refine zz (n:=psz p) (by omega) hp (Nat.le_refl _) hl (by simp [k0,g]) (λh' g1 g2=>?_);have e:=g2 14032 j0 (by omega);simp at e;simp [hdV,e];rw [cV hp];refine hK _ (by simp [g1,k0]) (λq q1 q2=>?_);have hq:¬ q=14032:=by omega
 simp [hq,g2 q q1 (by omega)]
structure RS (kx ky bx by_:Nat) (h0 h:AH) (X Y:List Part):Prop where
 ne:kx≠ky
 lx:kx<14000 - 16
 ly:ky<14000 - 16
 gx:AH.get h kx=.vars bx 235 [.ro (X.map Part.row)]
 gy:AH.get h ky=.vars by_ 235 [.ro (Y.map Part.row)]
 o:∀ q,q≠kx->q≠ky->q<14000->AH.get h q=AH.get h0 q
theorem RS.swap {kx ky bx by_:Nat} {h0 h:AH} {X Y:List Part} (R:RS kx ky bx by_ h0 h X Y):RS ky kx by_ bx h0 h Y X:=⟨R.ne.symm,R.ly,R.lx,R.gy,R.gx,λq h1 h2=>R.o q h2 h1⟩
section
variable {w0:World} {bF bG:Nat->Prop} {bl:Bool} {st:ASt} {dst:Option Nat} {K:ASt->Prop} {kx ky bx by_:Nat} {h0:AH} {X Y:List Part}
theorem RS.next (R:RS kx ky bx by_ h0 st.h X Y) (hs:∀ p∈X,ar p) (hK:∀ h',RS kx ky bx by_ h0 h' (nxt X) Y->bk ⟨st.n,st.kb,st.t,h'⟩ dst (hdV (nxt X)) K) :
 aa ⟨Tryz.prog,tt,w0,⟨bF,bG,bl,λ_=>True⟩⟩ 268 [.p kx bx 0] st dst K:=by
 have:=R.lx;have:=R.ly;refine Hn (l:=X) (kb:=20000) (by omega) hs R.gx (λh1 g1 o1=>hK h1 ⟨R.ne,R.lx,R.ly,g1,by rw [o1 ky R.ne.symm (by omega)];exact R.gy,λq q1 q2 q3=>by rw [o1 q q1 (by omega)];exact R.o q q1 q2 q3⟩)
theorem RS.take {p:Part} {l:List Part} {n:Nat} (R:RS kx ky bx by_ h0 st.h (p::l) Y) (hp:ar p) (hn:n<=psz p) (hl:l.length<=2 ^ 20) (hK:∀ h',RS kx ky bx by_ h0 h' (aV p n::l) Y->bk ⟨st.n,st.kb,st.t,h'⟩ dst (hdV [dI p n]) K) :
 aa ⟨Tryz.prog,tt,w0,⟨bF,bG,bl,λ_=>True⟩⟩ 271 [.p kx bx 0,.v (.int .i64 n)] st dst K:=by
 have:=R.lx;have:=R.ly;refine zz (by omega) hp hn hl R.gx (λh1 g1 o1=>hK h1 ⟨R.ne,R.lx,R.ly,g1,by rw [o1 ky R.ne.symm (by omega)];exact R.gy,λq q1 q2 q3=>by rw [o1 q q1 (by omega)];exact R.o q q1 q2 q3⟩)
theorem RS.whole {p:Part} {l:List Part} (R:RS kx ky bx by_ h0 st.h (p::l) Y) (hp:ar p) (hl:l.length<=2 ^ 20) (hK:∀ h',RS kx ky bx by_ h0 h' (aV p (psz p)::l) Y->bk ⟨st.n,st.kb,st.t,h'⟩ dst (hdV [p]) K) :
 aa ⟨Tryz.prog,tt,w0,⟨bF,bG,bl,λ_=>True⟩⟩ 269 [.p kx bx 0] st dst K:=by
 have:=R.lx;have:=R.ly;refine Ew (by omega) hp hl R.gx (λh1 g1 o1=>hK h1 ⟨R.ne,R.lx,R.ly,g1,by rw [o1 ky R.ne.symm (by omega)];exact R.gy,λq q1 q2 q3=>by rw [o1 q q1 (by omega)];exact R.o q q1 q2 q3⟩)
end
theorem pR:hdV []=.agg [.v (.int .i64 0),.v (.int .i64 0),.nil]:=rfl
theorem cq {p:Part} {l:List Part}:hdV (p::l)=.agg [.v (.int .i64 p.kind),.v (.int .i64 p.n),.ro (p.signs.map al)]:=rfl
open Go.AM
set_option maxRecDepth 20000
set_option maxHeartbeats 1600000
theorem iU {a b:List Part} (h:¬ (aR a/\aR b/\fp a=aO b)):da a b=([],false):=by unfold da;rw [if_neg h]
theorem sS {a b:List Part} (h1:aR a) (h2:aR b) (h3:fp a=aO b):(aR (normal (cmp a b))->da a b=(normal (cmp a b),true))/\(¬ aR (normal (cmp a b))->da a b=([],false)):=by
 unfold da;rw [if_pos ⟨h1,h2,h3⟩];exact ⟨λh=>by rw [if_pos h],λh=>by rw [if_neg h]⟩
theorem qt (a b:List Part) (ha:nL aq a<=2 ^ 40) (hb:nL aq b<=2 ^ 40):ai Tryz.prog 202 [.c (.s (a.map Part.row)),.c (.s (b.map Part.row))] (.tup [.c (.s ((da a b).1.map Part.row)) 3,.c (.v (.bool (da a b).2)) 1]):=by
 refine pci ae Tryz.func202 (λw0 base=>?_);simp;refine aa.pure (cF a ha) (by simp) ?_;by_cases c1:aR a
 rotate_left
 ·have e:=iU (a:=a) (b:=b) (λh=>c1 h.1)
  have e2:dc (aR a)=false:=by rw [aN];exact c1
  simp [e2,e]
 simp [c1];refine aa.pure (cF b hb) (by simp) ?_;by_cases c2:aR b
 rotate_left
 ·have e:=iU (a:=a) (b:=b) (λh=>c2 h.2.1)
  have e2:dc (aR b)=false:=by rw [aN];exact c2
  simp [e2,e]
 simp [c2];refine aa.pure (nd a ha) (by simp) ?_;simp;refine aa.pure (eH b hb) (by simp) ?_;by_cases c3:fp a=aO b
 rotate_left
 ·have e:=iU (a:=a) (b:=b) (λh=>c3 h.2.2)
  simp [c3,e]
 have hf:=sS c1 c2 c3;simp [c3];intro bx by_;have t1:=og c1;have t2:=og c2
 refine ah eok (λx:List Part×List Part×List Part×Hd=>CInv x.1 x.2.1/\x.2.2.1++cmp x.1 x.2.1=cmp a b/\(∀ p∈x.2.2.1,ar p)/\x.2.2.1.length+(tsz x.1+tsz x.2.1)<=800/\x.1.length<=1000/\x.2.1.length<=1000)
  (λx=>⟨98,0,[(6,.p 464 bx 0),(7,.p 512 by_ 0),(8,.sl 5000 x.2.2.2 3 0 x.2.2.1.length)],
  [(464,.vars bx 235 [.ro (x.1.map Part.row)]),(512,.vars by_ 235 [.ro (x.2.1.map Part.row)]),(5000,.rows x.2.2.2 3 (x.2.2.1.map Part.row) false)]⟩) (λx=>tsz x.1+tsz x.2.1) (a,b,[],none)
  ⟨GD c1 c2 c3,by simp,by simp,by simp;omega,by have:=c1.1.2;simp only;omega,by have:=c2.1.2;simp only;omega⟩ (by simp) (λx hx=>Ent.refl ?_)
 obtain ⟨X,Y,L,H⟩:=x;obtain ⟨hi,hcmp,hL,hlen,hlx,hly⟩:=hx;simp only at hi hcmp hL hlen hlx hly ⊢;have xl:=vN X;have yl:=vN Y;obtain ⟨h0,hh0⟩:∃ h0:AH,[(464,.vars bx 235 [.ro (X.map Part.row)]),(512,.vars by_ 235 [.ro (Y.map Part.row)]),(5000,.rows H 3 (L.map Part.row) false)]=h0:=⟨_,rfl⟩;have R:RS 464 512 bx by_ h0 h0 X Y:=⟨by decide,by decide,by decide,by rw [<- hh0];simp,by rw [<- hh0];simp,λ_ _ _ _=>rfl⟩;have g5:AH.get h0 5000=.rows H 3 (L.map Part.row) false:=by rw [<- hh0];simp
 rw [hh0]
 clear hh0
 simp;refine R.next hi.px (λh1 R=>?_);have okx:∀ p∈nxt X,ar p:=λp hp=>hi.px p (it hp)
 have oky:∀ p∈nxt Y,ar p:=λp hp=>hi.py p (it hp)
 have hxt:=vM X;have hyf:=iu Y;have hbal:=hi.b
 cases ex:nxt X with
 | nil =>
   rw [ex] at R;simp [pR];refine R.swap.next hi.py (λh2 R=>?_);have R:=R.swap
   cases ey:nxt Y with
   | nil =>
     have hc:cmp X Y=[]:=D5 (by simp [fM,ex,ey]);simp [pR];rw [hc,List.append_nil] at hcmp;have e5:=R.o 5000 (by decide) (by decide) (by decide);refine aa.pure (sd L hL (by omega)) (by simp [e5,g5]) ?_;simp;intro H2;rw [hcmp] at hL hlen ⊢;refine aa.pure (cF (normal (cmp a b)) (by have:=jC hL;omega)) (by simp) ?_;by_cases c4:aR (normal (cmp a b))
     ·have e:=hf.1 c4
      simp [c4,e]
     ·have e:=hf.2 c4
      have e2:dc (aR (normal (cmp a b)))=false:=by rw [aN];exact c4
      simp [e2,e]
   | cons q y' =>
     rw [ey] at R;have hq:=(eb hi.py ey).1;have hqb:=hq.bounds;have q0:¬ q.kind=0:=by omega
     simp [cq,q0];refine R.next (by simp) (λh3 R=>?_);simp only [nxt] at R;simp [nxt,pR];refine R.swap.next (by rw [<- ey];exact oky) (λh4 R=>?_);have R:=R.swap;rw [<- ey,cw,ey] at R;rw [<- ey,cw,ey];by_cases q2:q.kind=2
     ·simp [cq,q2]
      refine R.swap.whole hq (by simp [ey] at yl;omega) (λh5 R=>?_);have R:=R.swap;have e5:=R.o 5000 (by decide) (by decide) (by decide);have hc:fM X Y=some ([dI q (psz q)],[],aV q (psz q)::y'):=by simp [fM,ex,ey,q2]
      rw [cV hq] at hc;have hn:=gb hi hc;have hcm:=pi hi hc;simp [cq,e5,g5];intro b1;refine ⟨by omega,λH2=>Ent.refl ⟨[],aV q (psz q)::y',L++[q],⟨hn.inv,by rw [<- hcmp,hcm,List.append_assoc],?_,?_,?_,?_⟩,hn.dec,H2,?_⟩⟩
      ·intro r hr
       rcases List.mem_append.1 hr with hr|hr
       ·exact hL r hr
       ·exact hn.ok r hr
      ·have:=hn.dec
       simp at this ⊢;omega
      ·simp
      ·simp [ey] at yl ⊢;omega
      ·simp [R.gx,R.gy,Part.row,q2]
     ·exfalso
      have:=dn ey;rw [ex] at hxt;rw [ey] at hyf;simp [tos,frs,q2] at hxt hyf;omega
 | cons p x' =>
   rw [ex] at R;have hp:=(eb hi.px ex).1;have hpb:=hp.bounds;have p0:¬ p.kind=0:=by omega
   simp [cq,p0];refine R.next (by rw [<- ex];exact okx) (λh3 R=>?_);rw [<- ex,cw,ex] at R;rw [<- ex,cw,ex];by_cases p3:p.kind=3
   ·simp [cq,p3]
    refine R.whole hp (by simp [ex] at xl;omega) (λh5 R=>?_);have e5:=R.o 5000 (by decide) (by decide) (by decide);have hc:fM X Y=some ([dI p (psz p)],aV p (psz p)::x',Y):=by simp [fM,ex,p3]
    rw [cV hp] at hc;have hn:=gb hi hc;have hcm:=pi hi hc;simp [cq,e5,g5];intro b1;refine ⟨by omega,λH2=>Ent.refl ⟨aV p (psz p)::x',Y,L++[p],⟨hn.inv,by rw [<- hcmp,hcm,List.append_assoc],?_,?_,?_,?_⟩,hn.dec,H2,?_⟩⟩
    ·intro r hr
     rcases List.mem_append.1 hr with hr|hr
     ·exact hL r hr
     ·exact hn.ok r hr
    ·have:=hn.dec
     simp at this ⊢;omega
    ·simp [ex] at xl ⊢;omega
    ·exact hly
    ·simp [R.gx,R.gy,Part.row,p3]
   ·simp [cq,p3]
    refine R.swap.next hi.py (λh4 R=>?_);have R:=R.swap
    cases ey:nxt Y with
    | nil =>
      exfalso
      have:=dn ex;rw [ex] at hxt;rw [ey] at hyf;simp [tos,frs,p3] at hxt hyf;omega
    | cons q y' =>
      rw [ey] at R;have hq:=(eb hi.py ey).1;have hqb:=hq.bounds;by_cases q2:q.kind=2
      ·simp [cq,q2]
       refine R.swap.whole hq (by simp [ey] at yl;omega) (λh5 R=>?_);have R:=R.swap;have e5:=R.o 5000 (by decide) (by decide) (by decide);have hc:fM X Y=some ([dI q (psz q)],p::x',aV q (psz q)::y'):=by simp [fM,ex,ey,p3,q2]
       rw [cV hq] at hc;have hn:=gb hi hc;have hcm:=pi hi hc;simp [cq,e5,g5];intro b1;refine ⟨by omega,λH2=>Ent.refl ⟨p::x',aV q (psz q)::y',L++[q],⟨hn.inv,by rw [<- hcmp,hcm,List.append_assoc],?_,?_,?_,?_⟩,hn.dec,H2,?_⟩⟩
       ·intro r hr
        rcases List.mem_append.1 hr with hr|hr
        ·exact hL r hr
        ·exact hn.ok r hr
       ·have:=hn.dec
        simp at this ⊢;omega
       ·simp [ex] at xl ⊢;omega
       ·simp [ey] at yl ⊢;omega
       ·simp [R.gx,R.gy,Part.row,q2]
      ·simp [cq,q2]
       refine R.next (by rw [<- ex];exact okx) (λh5 R=>?_);rw [<- ex,cw,ex] at R;rw [<- ex,cw,ex];simp [cq];refine aa.pure (jE p hp) (by simp [Part.row]) ?_;simp;refine R.swap.next (by rw [<- ey];exact oky) (λh6 R=>?_);have R:=R.swap;rw [<- ey,cw,ey] at R;rw [<- ey,cw,ey];simp [cq];refine aa.pure (jE q hq) (by simp [Part.row]) ?_;simp;rw [yg];obtain ⟨n,hn⟩:∃ n,min (psz p) (psz q)=n:=⟨_,rfl⟩;rw [hn];simp;refine R.take hp (n:=n) (by omega) (by simp [ex] at xl;omega) (λh7 R=>?_);rw [cq];obtain ⟨pc,hpc⟩:∃ pc,dI p n=pc:=⟨_,rfl⟩;have pk:pc.kind=p.kind:=by rw [<- hpc];simp
       rw [hpc];simp;refine R.swap.take hq (n:=n) (by omega) (by simp [ey] at yl;omega) (λh8 R=>?_);have R:=R.swap;rw [cq];obtain ⟨qc,hqc⟩:∃ qc,dI q n=qc:=⟨_,rfl⟩;have qk:qc.kind=q.kind:=by rw [<- hqc];simp
       rw [hqc];have e5:=R.o 5000 (by decide) (by decide) (by decide);have hc:fM X Y=some (if q.kind=1 then [pc] else if p.kind=1 then [qc] else [],aV p n::x',aV q n::y'):=by simp [fM,ex,ey,p3,q2,hn,hpc,hqc]
       have hnx:=gb hi hc;have hcm:=pi hi hc;have hok:=hnx.ok;have hdec:=hnx.dec;have hlx2:(aV p n::x').length<=1000:=by simp [ex] at xl ⊢;omega
       have hly2:(aV q n::y').length<=1000:=by simp [ey] at yl ⊢;omega
       simp only at hcm hok hdec;simp;intro b1 b2;by_cases q1:q.kind=1
       ·simp only [q1,if_true] at hcm hok
        simp [qk,q1,pk,e5,g5];intro b3;refine ⟨by omega,λH2=>Ent.refl ⟨aV p n::x',aV q n::y',L++[pc],⟨hnx.inv,by rw [<- hcmp,hcm,List.append_assoc],?_,?_,hlx2,hly2⟩,hdec,H2,?_⟩⟩
        ·intro r hr
         rcases List.mem_append.1 hr with hr|hr
         ·exact hL r hr
         ·exact hok r hr
        ·simp;omega
        ·simp [R.gx,R.gy,Part.row,pk]
       ·by_cases p1:p.kind=1
        ·simp only [q1,p1,if_true,if_false] at hcm hok
         simp [qk,q1,pk,p1,e5,g5];intro b3;refine ⟨by omega,λH2=>Ent.refl ⟨aV p n::x',aV q n::y',L++[qc],⟨hnx.inv,by rw [<- hcmp,hcm,List.append_assoc],?_,?_,hlx2,hly2⟩,hdec,H2,?_⟩⟩
         ·intro r hr
          rcases List.mem_append.1 hr with hr|hr
          ·exact hL r hr
          ·exact hok r hr
         ·simp;omega
         ·simp [R.gx,R.gy,Part.row,qk]
        ·simp only [q1,p1,if_false,List.nil_append] at hcm hok
         simp [qk,q1,pk,p1];refine Ent.refl ⟨aV p n::x',aV q n::y',L,⟨hnx.inv,by rw [<- hcmp,hcm],hL,by omega,hlx2,hly2⟩,hdec,H,?_⟩;simp [R.gx,R.gy,e5,g5]
theorem Ag (p:Part) (h:ar p):ai Tryz.prog 284 [.agg p.row] (.one (.c (vi (psz p)) 1)):=by
 refine pci ae Tryz.func284 (λw0 base=>?_);have hp:=fC h;have hb:=h.bounds;rw [hp.1];simp [Part.row];by_cases hk:p.kind=2
 ·have:=hb.2.2.2.2.1 hk
  simp [hk,this]
 ·have:=hb.2.2.2.2.2 hk
  simp [hk,this]
structure Cu (a:List Part) (i d:Nat) (X:List Part):Prop where
 ok:∀ p∈a,ar p
 le:i<=a.length
 v:∀ h:i<a.length,d<=psz a[i]
 z:i=a.length->d=0
 c:cur a i d=X
def hdK:List Part->Int
 | []=>0
 |p::_=>p.kind
structure CR (kx ky bx by_:Nat) (h0 h:AH) (a b:List Part) (i d j e:Nat) (X Y:List Part):Prop where
 ne:kx≠ky
 lx:kx<14000 - 16
 ly:ky<14000 - 16
 gx:AH.get h kx=.vars bx 201 [.ro (a.map Part.row),.v (.int .i64 i),.v (.int .i64 d)]
 gy:AH.get h ky=.vars by_ 201 [.ro (b.map Part.row),.v (.int .i64 j),.v (.int .i64 e)]
 o:∀ q,q≠kx->q≠ky->q<14000->AH.get h q=AH.get h0 q
 cx:Cu a i d X
 cy:Cu b j e Y
theorem CR.swap {kx ky bx by_:Nat} {h0 h:AH} {a b:List Part} {i d j e:Nat} {X Y:List Part} (R:CR kx ky bx by_ h0 h a b i d j e X Y):CR ky kx by_ bx h0 h b a j e i d Y X:=⟨R.ne.symm,R.ly,R.lx,R.gy,R.gx,λq h1 h2=>R.o q h2 h1,R.cy,R.cx⟩
theorem Cu.bnd {a:List Part} {i d:Nat} {X:List Part} (h:Cu a i d X):d<=200:=by
 by_cases hlt:i<a.length
 ·have:=h.v hlt
  have:=(fC (h.ok _ (List.getElem_mem hlt))).2;omega
 ·have:=h.z (by have:=h.le;omega)
  omega
theorem HJ {w0:World} {bF bG:Nat->Prop} {bl:Bool} {st:ASt} {dst:Option Nat} {K:ASt->Prop} {kx b i d:Nat} {a X:List Part} (_hk:kx<14000) (hl:a.length<=2 ^ 20) (cx:Cu a i d X)
 (g:st.h.get kx=.vars b 201 [.ro (a.map Part.row),.v (.int .i64 i),.v (.int .i64 d)])
 (hK:∀ h' i' d',Cu a i' d' (nxt X)->AH.get h' kx=.vars b 201 [.ro (a.map Part.row),.v (.int .i64 i'),.v (.int .i64 d')]->(∀ q,q≠kx->q<20000->AH.get h' q=st.h.get q)->bk ⟨st.n,st.kb,st.t,h'⟩ dst (.v (.int .i64 (hdK (nxt X)))) K) :
 aa ⟨Tryz.prog,tt,w0,⟨bF,bG,bl,λ_=>True⟩⟩ 229 [.p kx b 0] st dst K:=by
 refine inl ae Tryz.func229 20000 (λw1 F=>?_);simp;refine tf eok (λx:Nat×Nat=>Cu a x.1 x.2 (cur a x.1 x.2)/\nxt (cur a x.1 x.2)=nxt X) (λx=>⟨62,20000,[(0,.p kx b 0),(2,.v (.int .i64 0))],(kx,.vars b 201 [.ro (a.map Part.row),.v (.int .i64 x.1),.v (.int .i64 x.2)])::st.h⟩) (λx=>a.length - x.1) (i,d) ⟨⟨cx.ok,cx.le,cx.v,cx.z,rfl⟩,by rw [cx.c]⟩ (by simp [g]) (λx hx=>?_);obtain ⟨i,d⟩:=x;obtain ⟨hc,hn⟩:=hx;have hcl:=hc.le;have hb:=hc.bnd;simp only at hc hn hcl ⊢;simp;by_cases hlt:i<a.length
 ·have hp:=hc.ok _ (List.getElem_mem hlt)
  have hd:=hc.v hlt;have hps:=fC hp;refine be.quiet eok mix (by kernel_rfl) ?_;simp [hlt];refine ⟨_,_,Ag a[i] hp,by simp [Part.row],?_⟩;by_cases he:d=psz a[i]
  ·have e1:Go.IntKind.i64.wrap ((i:Int)+1)=((i+1:Nat):Int):=aj (by omega)
   simp [he,e1];refine ⟨i+1,0,⟨⟨hc.ok,by omega,λ_=>by omega,λ_=>rfl,rfl⟩,?_⟩,by omega,by omega,rfl⟩;rw [<- hn,he,KM hc.ok hlt]
  ·have he2:¬ (d:Int)=psz a[i]:=by omega
   have hne:¬ i=a.length:=by omega
   simp [he2];refine be.quiet eok mix (by kernel_rfl) ?_;have hne2:¬ (i:Int)=a.length:=by omega
   simp [hne2];refine be.quiet eok mix (by kernel_rfl) ?_;simp [hlt,Part.row];have hs:=KK hc.ok hlt (show d<psz a[i] by omega);rw [hs] at hn;have hk2:hdK (nxt X)=a[i].kind:=by rw [<- hn,xU hlt];simp [hdK]
   rw [hk2] at hK;refine hK _ i d ⟨hc.ok,hc.le,hc.v,hc.z,hn⟩ (by simp) (λq q1 q2=>by simp [q1])
 ·have hi:i=a.length:=by omega
  have hd:=hc.z hi;refine be.quiet eok mix (by kernel_rfl) ?_;simp [hlt];refine be.quiet eok mix (by kernel_rfl) ?_;simp [hi];have hn2:nxt X=[]:=by rw [<- hn,BZ (by omega)];rfl
  rw [hn2] at hK;refine hK _ i d ⟨hc.ok,hc.le,hc.v,hc.z,BZ (by omega)⟩ (by simp [hi]) (λq q1 q2=>by simp [q1])
theorem Cu.head {a:List Part} {i d:Nat} {p:Part} {l:List Part} (h:Cu a i d (p::l)):∃ hi:i<a.length,p=aV a[i] d/\l=a.drop (i+1)/\psz p=psz a[i] - d/\d<=psz a[i]/\p.kind=a[i].kind/\ar p:=by
 have hi:i<a.length:=by
  have:=h.le;rcases Nat.lt_or_ge i a.length with h1|h1
  ·exact h1
  ·have:=h.c
   rw [BZ h1] at this
   cases this
 have hc:=h.c;rw [xU hi] at hc
 cases hc
 have hp:=h.ok _ (List.getElem_mem hi);exact ⟨hi,rfl,rfl,fH hp (h.v hi),h.v hi,by simp,C6 hp (h.v hi)⟩
theorem Cu.add {a:List Part} {i d n:Nat} {p:Part} {l:List Part} (h:Cu a i d (p::l)) (hn:n<=psz p):Cu a i (d+n) (aV p n::l):=by
 obtain ⟨hi,h1,h2,h3,h4,-,-⟩:=h.head;exact ⟨h.ok,h.le,λ_=>by omega,λhe=>by omega,(KN hi h.c).symm⟩
theorem Hz {w0:World} {bF bG:Nat->Prop} {bl:Bool} {st:ASt} {dst:Option Nat} {K:ASt->Prop} {kx b i d:Nat} {a l:List Part} {p:Part} (cx:Cu a i d (p::l))
 (g:st.h.get kx=.vars b 201 [.ro (a.map Part.row),.v (.int .i64 i),.v (.int .i64 d)])
 (hK:bk st dst (.v (.int .i64 (psz p))) K) :
 aa ⟨Tryz.prog,tt,w0,⟨bF,bG,bl,λ_=>True⟩⟩ 230 [.p kx b 0] st dst K:=by
 refine inl ae Tryz.func230 20000 (λw1 F=>?_);obtain ⟨hi,h1,h2,h3,h4,-,-⟩:=cx.head;have hp:=cx.ok _ (List.getElem_mem hi);have hps:=fC hp;simp;refine be.quiet eok mix (by kernel_rfl) ?_;simp [g,hi];refine ⟨_,_,Ag a[i] hp,by simp [Part.row],?_⟩;have e:Go.IntKind.i64.wrap ((psz a[i]:Int) - (d:Int))=(psz p:Int):=by rw [Go.IntWalk.i64_in _ (by omega)];omega
 simp [e];exact hK
theorem B0 {w0:World} {bF bG:Nat->Prop} {bl:Bool} {st:ASt} {dst:Option Nat} {K:ASt->Prop} {kx b i d n:Nat} {a l:List Part} {p:Part} (_hk:kx<14000) (cx:Cu a i d (p::l)) (hk2:p.kind=2) (hn:n<=psz p)
 (g:st.h.get kx=.vars b 201 [.ro (a.map Part.row),.v (.int .i64 i),.v (.int .i64 d)])
 (hK:∀ h',Cu a i (d+n) (aV p n::l)->AH.get h' kx=.vars b 201 [.ro (a.map Part.row),.v (.int .i64 i),.v (.int .i64 ((d+n:Nat):Int))]->(∀ q,q≠kx->q<20000->AH.get h' q=st.h.get q)->bk ⟨st.n,st.kb,st.t,h'⟩ dst (.ro ((p.signs.take n).map al)) K) :
 aa ⟨Tryz.prog,tt,w0,⟨bF,bG,bl,λ_=>True⟩⟩ 233 [.p kx b 0,.v (.int .i64 n)] st dst K:=by
 refine inl ae Tryz.func233 20000 (λw1 F=>?_);obtain ⟨hi,h1,h2,h3,h4,h5,-⟩:=cx.head;have hp:=cx.ok _ (List.getElem_mem hi);have hps:=fC hp;have hkk:a[i].kind=2:=by rw [<- h5];exact hk2
 have hn0:=hp.bounds.2.2.2.2.1 hkk;have hsz:psz a[i]=a[i].signs.length:=by omega
 have hs:p.signs=a[i].signs.drop d:=by rw [h1];simp [aV,hkk]
 have e:Go.IntKind.i64.wrap ((d:Int)+(n:Int))=((d+n:Nat):Int):=by rw [Go.IntWalk.i64_in _ (by omega)];omega
 have hle:d+n<=a[i].signs.length:=by omega
 have hv:cut (a[i].signs.map al) d n=(p.signs.take n).map al:=by
  unfold cut
  split
  ·rename_i hh
   rw [hs,hh.1];simp at hh;simp [hh.2]
  ·rw [hs,List.map_take,List.map_drop]
 obtain ⟨m,hm⟩:∃ m,d+n=m:=⟨_,rfl⟩;have e2:m - d=n:=by omega
 have hadd:=cx.add hn;rw [hm] at e hle hK hadd;simp;refine be.quiet eok mix (by kernel_rfl) ?_;simp [g,hi,Part.row,e,e2,hv];simp only [List.map_take] at hK;refine ⟨hle,by omega,hK _ hadd ?_ (λq q1 q2=>?_)⟩
 ·simp
 ·simp [q1]
theorem Dp (x y:Nat):ai Tryz.prog 234 [.c (vi x),.c (vi y)] (.one (.c (vi ((min x y:Nat):Int)) 1)):=by
 refine pci ae Tryz.func234 (λw0 base=>?_);simp;by_cases h:x<y
 ·have:min x y=x:=by omega
  simp [h,this]
 ·have:min x y=y:=by omega
  simp [h,this]
section
variable {w0:World} {bF bG:Nat->Prop} {bl:Bool} {st:ASt} {dst:Option Nat} {K:ASt->Prop} {kx ky bx by_ i d j e:Nat} {h0:AH} {a b X Y:List Part}
theorem CR.kind (R:CR kx ky bx by_ h0 st.h a b i d j e X Y) (hl:a.length<=2 ^ 20) (hK:∀ h' i' d',CR kx ky bx by_ h0 h' a b i' d' j e (nxt X) Y->bk ⟨st.n,st.kb,st.t,h'⟩ dst (.v (.int .i64 (hdK (nxt X)))) K) :
 aa ⟨Tryz.prog,tt,w0,⟨bF,bG,bl,λ_=>True⟩⟩ 229 [.p kx bx 0] st dst K:=by
 have:=R.lx;have:=R.ly;refine HJ (by omega) hl R.cx R.gx (λh1 i1 d1 c1 g1 o1=>hK h1 i1 d1 ⟨R.ne,R.lx,R.ly,g1,by rw [o1 ky R.ne.symm (by omega)];exact R.gy,λq q1 q2 q3=>by rw [o1 q q1 (by omega)];exact R.o q q1 q2 q3,c1,R.cy⟩)
theorem CR.left {p:Part} {l:List Part} (R:CR kx ky bx by_ h0 st.h a b i d j e (p::l) Y) (hK:bk st dst (.v (.int .i64 (psz p))) K) :
 aa ⟨Tryz.prog,tt,w0,⟨bF,bG,bl,λ_=>True⟩⟩ 230 [.p kx bx 0] st dst K:=Hz R.cx R.gx hK
theorem CR.take {p:Part} {l:List Part} {n:Nat} (R:CR kx ky bx by_ h0 st.h a b i d j e (p::l) Y) (hk2:p.kind=2) (hn:n<=psz p) (hK:∀ h',CR kx ky bx by_ h0 h' a b i (d+n) j e (aV p n::l) Y->bk ⟨st.n,st.kb,st.t,h'⟩ dst (.ro ((p.signs.take n).map al)) K) :
 aa ⟨Tryz.prog,tt,w0,⟨bF,bG,bl,λ_=>True⟩⟩ 233 [.p kx bx 0,.v (.int .i64 n)] st dst K:=by
 have:=R.lx;have:=R.ly;refine B0 (by omega) R.cx hk2 hn R.gx (λh1 c1 g1 o1=>hK h1 ⟨R.ne,R.lx,R.ly,g1,by rw [o1 ky R.ne.symm (by omega)];exact R.gy,λq q1 q2 q3=>by rw [o1 q q1 (by omega)];exact R.o q q1 q2 q3,c1,R.cy⟩)
theorem CR.rebase (R:CR kx ky bx by_ h0 st.h a b i d j e X Y) {h':AH} (hx:AH.get h' kx=AH.get st.h kx) (hy:AH.get h' ky=AH.get st.h ky):CR kx ky bx by_ h' h' a b i d j e X Y:=
 ⟨R.ne,R.lx,R.ly,hx.trans R.gx,hy.trans R.gy,λ_ _ _ _=>rfl,R.cx,R.cy⟩
theorem CR.done {p:Part} {l:List Part} {n:Nat} (R:CR kx ky bx by_ h0 st.h a b i d j e (p::l) Y) (hn:n<=psz p):CR kx ky bx by_ ((kx,.vars bx 201 [.ro (a.map Part.row),.v (.int .i64 i),.v (.int .i64 ((d+n:Nat):Int))])::st.h) ((kx,.vars bx 201 [.ro (a.map Part.row),.v (.int .i64 i),.v (.int .i64 ((d+n:Nat):Int))])::st.h) a b i (d+n) j e (aV p n::l) Y:=
 ⟨R.ne,R.lx,R.ly,by simp,by rw [bo,if_neg R.ne.symm];exact R.gy,λ_ _ _ _=>rfl,R.cx.add hn,R.cy⟩
end
open Go.AM
set_option maxRecDepth 20000
theorem nP {w0:World} {bF bG:Nat->Prop} {bl:Bool} {st:ASt} {dst:Option Nat} {K:ASt->Prop} {L:List Part} {P:List Int} {D:Int} {b:Nat} {Hl Hp:Hd} (hL:L.length<=2 ^ 20) (_hP:P.length<=2 ^ 40)
 (g160:st.h.get 576=.vars b 204 [.sl 5000 Hl 3 0 L.length,.sl 5001 Hp 1 0 P.length,.v (.int .i64 D)])
 (g5000:st.h.get 5000=.rows Hl 3 (L.map Part.row) true) (g5001:st.h.get 5001=.rows Hp 1 (P.map al) true)
 (hK:∀ Hl' h',AH.get h' 576=.vars b 204 [.sl 5000 Hl' 3 0 (aD L P D).length,.nil,.v (.int .i64 0)] -> AH.get h' 5000=.rows Hl' 3 ((aD L P D).map Part.row) true ->
  (∀ q,q<15000->q≠576->q≠5000->q≠5001->AH.get h' q=st.h.get q)->bk ⟨st.n,st.kb,st.t,h'⟩ dst (.tup []) K):aa ⟨Tryz.prog,tt,w0,⟨bF,bG,bl,λ_=>True⟩⟩ 285 [.p 576 b 0] st dst K:=by
 refine inl ae Tryz.func285 20000 (λw1 F=>?_);simp [g160];by_cases hp:P=[]
 ·have hp0:¬ 0<P.length:=by simp [hp]
  simp [hp0,g160];by_cases hd:0<D
  ·simp [hd]
   refine drw eok mix [0,1,2,3,4,5,6,7,8,9,12,13] [10,11,14] (.c 12 10 4 4091 (.c 12 11 128 3963 (.c 12 14 3961 2 (.l 12 2) .s) .s) .s) ?_;simp [g160,g5000];intro b1;refine ⟨by omega,λH=>hK H _ ?_ ?_ ?_⟩
   ·simp [l8 hp hd]
   ·simp [l8 hp hd,Part.row]
   ·intro q q0 q1 q2 q3
    repeat (first|exact rfl|refine (bu (by omega)).trans ?_)
  ·simp [hd,g160]
   refine hK Hl _ ?_ ?_ ?_
   ·simp [l7 hp hd]
   ·simp [l7 hp hd,g5000]
   ·intro q q0 q1 q2 q3
    repeat (first|exact rfl|refine (bu (by omega)).trans ?_)
 ·have hp0:0<P.length:=List.length_pos_iff.2 hp
  simp [hp0];refine drw eok mix [0,1,2,3,4,5,6,7,8,9,12,13] [10,11,14] (.c 12 10 4 4091 (.c 12 11 128 3963 (.c 12 14 3961 2 (.l 12 2) .s) .s) .s) ?_;simp [g160,g5000,g5001];intro b1;refine ⟨by omega,λH=>?_⟩;by_cases hd:0<D
  ·simp [hd]
   refine drw eok mix [0,1,2,3,4,5,6,7,8,9,12,13] [10,11,14] (.c 12 10 4 4091 (.c 12 11 128 3963 (.c 12 14 3961 2 (.l 12 2) .s) .s) .s) ?_;simp;intro b2;refine ⟨by omega,λH2=>hK H2 _ ?_ ?_ ?_⟩
   ·simp [ma hp hd]
   ·simp [ma hp hd,Part.row]
   ·intro q q0 q1 q2 q3
    repeat (first|exact rfl|refine (bu (by omega)).trans ?_)
  ·simp [hd]
   refine hK H _ ?_ ?_ ?_
   ·simp [l9 hp hd]
   ·simp [l9 hp hd,Part.row]
   ·intro q q0 q1 q2 q3
    repeat (first|exact rfl|refine (bu (by omega)).trans ?_)
theorem ww {w0:World} {bF bG:Nat->Prop} {bl:Bool} {st:ASt} {dst:Option Nat} {K:ASt->Prop} {L:List Part} {P:List Int} {D n:Int} {b:Nat} {Hl Hp:Hd} (hL:L.length<=2 ^ 19) (hP:P.length<=2 ^ 40) (hn0:0<n) (hn:n<=200) (hF:∀ q∈aD L P D,0<=q.n/\q.n<=2 ^ 40)
 (g160:st.h.get 576=.vars b 204 [.sl 5000 Hl 3 0 L.length,.sl 5001 Hp 1 0 P.length,.v (.int .i64 D)])
 (g5000:st.h.get 5000=.rows Hl 3 (L.map Part.row) true) (g5001:st.h.get 5001=.rows Hp 1 (P.map al) true)
 (hK:∀ Hl' h',AH.get h' 576=.vars b 204 [.sl 5000 Hl' 3 0 (bO (aD L P D) n).length,.nil,.v (.int .i64 0)] -> AH.get h' 5000=.rows Hl' 3 ((bO (aD L P D) n).map Part.row) true ->
  (∀ q,q<15000->q≠576->q≠5000->q≠5001->AH.get h' q=st.h.get q)->bk ⟨st.n,st.kb,st.t,h'⟩ dst (.tup []) K):aa ⟨Tryz.prog,tt,w0,⟨bF,bG,bl,λ_=>True⟩⟩ 235 [.p 576 b 0,.v (.int .i64 n)] st dst K:=by
 refine inl ae Tryz.func235 30000 (λw1 F=>?_);have n0:¬ n=0:=by omega
 simp [n0];refine nP (L:=L) (P:=P) (D:=D) (Hl:=Hl) (Hp:=Hp) (by omega) hP (by simp [g160]) (by simp [g5000]) (by simp [g5001]) (λHl' h' k160 k5000 k80=>?_);have f1:=fQ L P D;generalize aD L P D=F at f1 hF k160 k5000 hK;by_cases hF0:0<F.length
 ·obtain ⟨m,hm⟩:∃ m,F.length=m+1:=⟨F.length - 1,by omega⟩
  have hmlt:m<F.length:=by omega
  have hmm:(m:Int)<m+1:=by omega
  have em:Go.IntKind.i64.wrap (m:Int)=m:=ec (by omega)
  have hk:bO F n=if F[m].kind=1 then F.set m ⟨1,F[m].n+n,F[m].signs⟩ else F++[⟨1,n,[]⟩]:=by
   have e0:F.length - 1=m:=by omega
   simp [bO,hF0,e0]
  have hq:=hF _ (List.getElem_mem hmlt);have em2:Go.IntKind.i64.wrap (F[m].n+n)=F[m].n+n:=Go.IntWalk.i64_in _ (by omega);simp [k160,k5000,hm,em,hmm,Part.row];by_cases ck:F[m].kind=1
  ·rw [if_pos ck] at hk
   simp [ck];refine drw eok mix [0,1,2,3,4,5,6,7,8,9,10,11,12,13,14,15,16,17,18] [19] (.c 19 19 524285 2 (.l 19 2) .s) ?_;simp [k160,k5000,hm,em,hmm,Part.row,ck,em2];have hmod:=jD (F:=F) (m:=m) hmlt (g:=λrow=>fW row 1 [CD.v (Value.int IntKind.i64 (F[m].n+n))]) (p:=⟨1,F[m].n+n,F[m].signs⟩) (by simp [Part.row,ck]);refine hK Hl' _ ?_ ?_ ?_
   ·simp [k160,hk,hm]
   ·simp [hk,hmod]
   ·intro q q0 q1 q2 q3
    repeat (first|exact k80 q q0 q1 q2 q3|exact rfl|refine (bu (by omega)).trans ?_)
  ·rw [if_neg ck] at hk
   simp [ck,k160,k5000,hm];intro b1;refine ⟨by omega,λH=>hK H _ ?_ ?_ ?_⟩
   ·simp [hk,hm]
   ·simp [hk,Part.row]
   ·intro q q0 q1 q2 q3
    repeat (first|exact k80 q q0 q1 q2 q3|exact rfl|refine (bu (by omega)).trans ?_)
 ·have hF1:F=[]:=List.eq_nil_of_length_eq_zero (by omega)
  subst hF1;have hk:bO [] n=[⟨1,n,[]⟩]:=by simp [bO]
  simp [k160,k5000];intro b1 H;refine hK H _ ?_ ?_ ?_
  ·simp [hk]
  ·simp [hk,Part.row]
  ·intro q q0 q1 q2 q3
   repeat (first|exact k80 q q0 q1 q2 q3|exact rfl|refine (bu (by omega)).trans ?_)
theorem lU {w0:World} {bF bG:Nat->Prop} {bl:Bool} {st:ASt} {dst:Option Nat} {K:ASt->Prop} {L:List Part} {P l:List Int} {D:Int} {b:Nat} {Hl Hp:Hd} (hP:P.length<=2 ^ 40) (hl:l.length<=2 ^ 40)
 (g160:st.h.get 576=.vars b 204 [.sl 5000 Hl 3 0 L.length,.sl 5001 Hp 1 0 P.length,.v (.int .i64 D)]) (g5001:st.h.get 5001=.rows Hp 1 (P.map al) true)
 (hK:∀ Hp' h',AH.get h' 576=.vars b 204 [.sl 5000 Hl 3 0 L.length,.sl 5001 Hp' 1 0 (P++l).length,.v (.int .i64 D)] -> AH.get h' 5001=.rows Hp' 1 ((P++l).map al) true -> AH.get h' 5000=st.h.get 5000 ->
  (∀ q,q<15000->q≠576->q≠5000->q≠5001->AH.get h' q=st.h.get q)->bk ⟨st.n,st.kb,st.t,h'⟩ dst (.tup []) K):aa ⟨Tryz.prog,tt,w0,⟨bF,bG,bl,λ_=>True⟩⟩ 232 [.p 576 b 0,.ro (l.map al)] st dst K:=by
 refine inl ae Tryz.func232 30000 (λw1 F=>?_);simp [g160,g5001];refine ⟨by omega,λH=>hK H _ ?_ ?_ ?_ ?_⟩
 ·simp
 ·simp
 ·simp
 ·intro q q0 q1 q2 q3
  repeat (first|exact rfl|refine (bu (by omega)).trans ?_)
theorem ow {w0:World} {bF bG:Nat->Prop} {bl:Bool} {st:ASt} {dst:Option Nat} {K:ASt->Prop} {n D:Int} {b:Nat} {x y:AV} (h0:0<=D/\D<=2 ^ 40) (h1:0<=n/\n<=2 ^ 40)
 (g160:st.h.get 576=.vars b 204 [x,y,.v (.int .i64 D)])
 (hK:∀ h',AH.get h' 576=.vars b 204 [x,y,.v (.int .i64 (D+n))]->(∀ q,q≠576->AH.get h' q=st.h.get q)->bk ⟨st.n,st.kb,st.t,h'⟩ dst (.tup []) K):aa ⟨Tryz.prog,tt,w0,⟨bF,bG,bl,λ_=>True⟩⟩ 231 [.p 576 b 0,.v (.int .i64 n)] st dst K:=by
 refine inl ae Tryz.func231 30000 (λw1 F=>?_);have e:Go.IntKind.i64.wrap (D+n)=D+n:=Go.IntWalk.i64_in _ (by omega);simp [g160,e];refine hK _ (by simp) (λq hq=>by simp [hq])
set_option maxHeartbeats 1600000
theorem cW (L:List Part) (p:Part):aP (L++[p])=cM (aP L) p:=by simp [aP,List.foldl_append]
theorem tL {L:List Part} (h:∀ p∈L,ar p):NbOk L.length (aP L):=by
 have:=kY h L.length (Nat.le_refl _)
 rwa [List.take_length] at this
theorem ql (a b:List Part) (ha:nL aq a<=2 ^ 40) (hb:nL aq b<=2 ^ 40):ai Tryz.prog 157 [.c (.s (a.map Part.row)),.c (.s (b.map Part.row))] (.tup [.c (.s ((da a b).1.map Part.row)) 3,.c (.v (.bool (da a b).2)) 1]):=by
 refine pci ae Tryz.func157 (λw0 base=>?_);simp;refine aa.pure (cE a ha) (by simp) ?_;by_cases c1:aR a
 rotate_left
 ·have e:=iU (a:=a) (b:=b) (λh=>c1 h.1)
  have e2:dc (aR a)=false:=by rw [aN];exact c1
  simp [e2,e]
 simp [c1];refine aa.pure (cE b hb) (by simp) ?_;by_cases c2:aR b
 rotate_left
 ·have e:=iU (a:=a) (b:=b) (λh=>c2 h.2.1)
  have e2:dc (aR b)=false:=by rw [aN];exact c2
  simp [e2,e]
 simp [c2];refine aa.pure (mT a ha) (by simp) ?_;simp;refine aa.pure (d9 b hb) (by simp) ?_;by_cases c3:fp a=aO b
 rotate_left
 ·have e:=iU (a:=a) (b:=b) (λh=>c3 h.2.2)
  simp [c3,e]
 have hf:=sS c1 c2 c3;simp [c3];intro bx by_ bz;have t1:=og c1;have t2:=og c2;have la:=c1.1.2;have lb:=c2.1.2;have z0:∀ o:List Part,cur o 0 0=o:=λo=>by rw [xT,List.drop_zero]
 refine ah eok (λx:Nat×Nat×Nat×Nat×List Part×Hd×Hd=>Cu a x.1 x.2.1 (cur a x.1 x.2.1)/\Cu b x.2.2.1 x.2.2.2.1 (cur b x.2.2.1 x.2.2.2.1)/\CInv (cur a x.1 x.2.1) (cur b x.2.2.1 x.2.2.2.1)/\x.2.2.2.2.1++cmp (cur a x.1 x.2.1) (cur b x.2.2.1 x.2.2.2.1)=cmp a b/\(∀ p∈x.2.2.2.2.1,ar p)/\x.2.2.2.2.1.length+(tsz (cur a x.1 x.2.1)+tsz (cur b x.2.2.1 x.2.2.2.1))<=800)
  (λx=>⟨144,0,[(6,.p 496 bx 0),(7,.p 544 by_ 0),(8,.p 576 bz 0)],
  [(496, .vars bx 201 [.ro (a.map Part.row), .v (.int .i64 x.1), .v (.int .i64 x.2.1)]), (544, .vars by_ 201 [.ro (b.map Part.row), .v (.int .i64 x.2.2.1), .v (.int .i64 x.2.2.2.1)]),
   (576,.vars bz 204 [.sl 5000 x.2.2.2.2.2.1 3 0 (aP x.2.2.2.2.1).1.length,.sl 5001 x.2.2.2.2.2.2 1 0 (aP x.2.2.2.2.1).2.1.length,.v (.int .i64 (aP x.2.2.2.2.1).2.2)]),
   (5000,.rows x.2.2.2.2.2.1 3 ((aP x.2.2.2.2.1).1.map Part.row) true),(5001,.rows x.2.2.2.2.2.2 1 ((aP x.2.2.2.2.1).2.1.map al) true)]⟩) (λx=>tsz (cur a x.1 x.2.1)+tsz (cur b x.2.2.1 x.2.2.2.1)) (0,0,0,0,[],none,none)
  ⟨⟨c1.1.1,Nat.zero_le _,λ_=>Nat.zero_le _,λ_=>rfl,rfl⟩,⟨c2.1.1,Nat.zero_le _,λ_=>Nat.zero_le _,λ_=>rfl,rfl⟩,by simp only [z0];exact GD c1 c2 c3,by simp [z0],by simp,by simp [z0];omega⟩ (by simp [aP]) (λx hx=>Ent.refl ?_)
 obtain ⟨i,d,j,e,L,H,G⟩:=x;obtain ⟨cx,cy,hi,hcmp,hL,hlen⟩:=hx;simp only at cx cy hi hcmp hL hlen ⊢;have hB:=tL hL;obtain ⟨B,hBe⟩:∃ B,aP L=B:=⟨_,rfl⟩;obtain ⟨BL,BP,BD⟩:=B;rw [hBe] at hB;obtain ⟨k1,k2,k3,k4,k5⟩:=hB;simp only [hBe];simp only at k1 k2 k3 k4 k5;obtain ⟨X,hX⟩:∃ X,cur a i d=X:=⟨_,rfl⟩;obtain ⟨Y,hY⟩:∃ Y,cur b j e=Y:=⟨_,rfl⟩;rw [hX] at cx hi hcmp hlen;rw [hY] at cy hi hcmp hlen
 obtain ⟨h0,hh0⟩:∃ h0:AH,[(496,.vars bx 201 [.ro (a.map Part.row),.v (.int .i64 i),.v (.int .i64 d)]),(544,.vars by_ 201 [.ro (b.map Part.row),.v (.int .i64 j),.v (.int .i64 e)]),
  (576,.vars bz 204 [.sl 5000 H 3 0 BL.length,.sl 5001 G 1 0 BP.length,.v (.int .i64 BD)]),
  (5000,.rows H 3 (BL.map Part.row) true),(5001,.rows G 1 (BP.map al) true)]=h0:=⟨_,rfl⟩
 have R:CR 496 544 bx by_ h0 h0 a b i d j e X Y:=⟨by decide,by decide,by decide,by rw [<- hh0];simp,by rw [<- hh0];simp,λ_ _ _ _=>rfl,cx,cy⟩;have g5:AH.get h0 5000=.rows H 3 (BL.map Part.row) true:=by rw [<- hh0];simp
 have g6:AH.get h0 5001=.rows G 1 (BP.map al) true:=by rw [<- hh0];simp
 have g7:AH.get h0 576=.vars bz 204 [.sl 5000 H 3 0 BL.length,.sl 5001 G 1 0 BP.length,.v (.int .i64 BD)]:=by rw [<- hh0];simp
 rw [hh0]
 clear hh0
 simp
 have fin:∀ {i' d' j' e':Nat} {r:List Part×List Part×List Part},Cu a i' d' r.2.1 -> Cu b j' e' r.2.2 -> fM X Y=some r ->
  (Cu a i' d' (cur a i' d')/\Cu b j' e' (cur b j' e')/\CInv (cur a i' d') (cur b j' e')/\(L++r.1)++cmp (cur a i' d') (cur b j' e')=cmp a b/\(∀ p∈L++r.1,ar p)/\(L++r.1).length+(tsz (cur a i' d')+tsz (cur b j' e'))<=800)/\tsz (cur a i' d')+tsz (cur b j' e')<tsz (cur a i d)+tsz (cur b j e):=by
  intro i' d' j' e' r hu hv hs;have hn:=gb hi hs;have hcm:=pi hi hs;have hdec:=hn.dec;have hln:=hn.len;rw [hu.c,hv.c,hX,hY];refine ⟨⟨hu,hv,hn.inv,by rw [List.append_assoc,<- hcm,hcmp],?_,?_⟩,hdec⟩
  ·intro p hp
   rcases List.mem_append.1 hp with hp|hp
   ·exact hL p hp
   ·exact hn.ok p hp
  ·rw [List.length_append];omega
 refine R.kind (by omega) (λh1 i1 d1 R=>?_);have okx:∀ p∈nxt X,ar p:=λp hp=>hi.px p (it hp)
 have oky:∀ p∈nxt Y,ar p:=λp hp=>hi.py p (it hp)
 have hxt:=vM X;have hyf:=iu Y;have hbal:=hi.b
 cases ex:nxt X with
 | nil =>
   rw [ex] at R;simp [hdK];refine R.swap.kind (by omega) (λh2 j1 e1 R=>?_);have R:=R.swap
   cases ey:nxt Y with
   | nil =>
     have hc:cmp X Y=[]:=D5 (by simp [fM,ex,ey]);simp [hdK];rw [hc,List.append_nil] at hcmp;have e5:=R.o 5000 (by decide) (by decide) (by decide);have e6:=R.o 5001 (by decide) (by decide) (by decide);have e7:=R.o 576 (by decide) (by decide) (by decide);refine inl ae Tryz.func236 30000 (λw1 F=>?_);simp;refine nP (L:=BL) (P:=BP) (D:=BD) (Hl:=H) (Hp:=G) (by omega) (by omega) (by simp [e7,g7]) (by simp [e5,g5]) (by simp [e6,g6]) (λHl' h' k576 k5000 ko=>?_);have hnorm:aD BL BP BD=normal (cmp a b):=by rw [<- hcmp];unfold normal;rw [hBe]
     rw [hnorm] at k576 k5000;simp [k576];refine aa.pure (cE (normal (cmp a b)) (by rw [<- hcmp];have:=jC hL;omega)) (by simp [k5000]) ?_;by_cases c4:aR (normal (cmp a b))
     ·have e:=hf.1 c4
      simp [c4,e,k5000]
     ·have e:=hf.2 c4
      have e2:dc (aR (normal (cmp a b)))=false:=by rw [aN];exact c4
      simp [e2,e]
   | cons q y' =>
     rw [ey] at R;have hq:=(eb hi.py ey).1;have hqb:=hq.bounds;have q0:¬ q.kind=0:=by omega
     simp [hdK,q0];refine R.kind (by omega) (λh3 i2 d2 R=>?_);simp only [nxt] at R;simp [nxt,hdK];refine R.swap.kind (by omega) (λh4 j2 e2 R=>?_);have R:=R.swap;rw [<- ey,cw,ey] at R;rw [<- ey,cw,ey];by_cases q2:q.kind=2
     ·simp [hdK,q2]
      refine R.swap.left ?_;simp;refine R.swap.take q2 (Nat.le_refl _) (λh5 R=>?_);have R:=R.swap;have e5:=R.o 5000 (by decide) (by decide) (by decide);have e6:=R.o 5001 (by decide) (by decide) (by decide);have e7:=R.o 576 (by decide) (by decide) (by decide);simp;have hc:fM X Y=some ([dI q (psz q)],[],aV q (psz q)::y'):=by simp [fM,ex,ey,q2]
      have hf:=fin R.cx R.cy hc;rw [cV hq] at hf;have hpsz:psz q=q.signs.length:=by have:=hqb.2.2.2.2.1 q2;unfold psz;omega
      have htk:q.signs.take (psz q)=q.signs:=List.take_of_length_le (by omega);rw [<- List.map_take,htk];refine lU (L:=BL) (P:=BP) (D:=BD) (Hl:=H) (Hp:=G) (by omega) (by omega) (by simp [e7,g7]) (by simp [e6,g6]) (λHp' h' k576 k5001 k5000 ko=>?_);have R:=R.rebase (h':=h') (ko 496 (by decide) (by decide) (by decide) (by decide)) (ko 544 (by decide) (by decide) (by decide) (by decide));simp;refine Ent.refl ⟨_,_,_,_,_,hf.1,hf.2,H,Hp',?_⟩;rw [cW,hBe];simp [cM,q2,R.gx,R.gy,k576,k5001,k5000,e5,g5]
     ·exfalso
      have:=dn ey;rw [ex] at hxt;rw [ey] at hyf;simp [tos,frs,q2] at hxt hyf;omega
 | cons p x' =>
   rw [ex] at R;have hp:=(eb hi.px ex).1;have hpb:=hp.bounds;have hps:=fC hp;have p0:¬ p.kind=0:=by omega
   simp [hdK,p0];refine R.kind (by omega) (λh3 i2 d2 R=>?_);rw [<- ex,cw,ex] at R;rw [<- ex,cw,ex];by_cases p3:p.kind=3
   ·simp [hdK,p3]
    refine R.left ?_;simp;have e5:=R.o 5000 (by decide) (by decide) (by decide);have e6:=R.o 5001 (by decide) (by decide) (by decide);have e7:=R.o 576 (by decide) (by decide) (by decide);refine ow (n:=(psz p:Int)) (D:=BD) (by omega) (by omega) (e7.trans g7) (λh' k576 ko=>?_);have R:=R.rebase (h':=h') (ko 496 (by decide)) (ko 544 (by decide));have hc:fM X Y=some ([dI p (psz p)],aV p (psz p)::x',Y):=by simp [fM,ex,p3]
    have hd:=R.done (st:=⟨144,0,[],h'⟩) (Nat.le_refl (psz p));obtain ⟨m,hm⟩:∃ m,d2+psz p=m:=⟨_,rfl⟩;have ew:Go.IntKind.i64.wrap ((d2:Int)+(psz p:Int))=(m:Int):=by rw [Go.IntWalk.i64_in _ (by have:=R.cx.bnd;omega)];omega
    rw [hm] at hd;have hf:=fin hd.cx hd.cy hc;rw [cV hp] at hf;have h5:=ko 5000 (by decide);have h6:=ko 5001 (by decide);simp [R.gx,ew];refine Ent.refl ⟨_,_,_,_,_,hf.1,hf.2,H,G,?_⟩;rw [cW,hBe];have hpn:(psz p:Int)=p.n:=by have:=hpb.2.2.2.2.2 (by omega);rw [hps.1,this];simp
    simp [cM,p3,R.gy,k576,h5,h6,e5,g5,e6,g6,hpn]
   ·simp [hdK,p3]
    refine R.swap.kind (by omega) (λh4 j2 e2 R=>?_);have R:=R.swap
    cases ey:nxt Y with
    | nil =>
      exfalso
      have:=dn ex;rw [ex] at hxt;rw [ey] at hyf;simp [tos,frs,p3] at hxt hyf;omega
    | cons q y' =>
      rw [ey] at R;have hq:=(eb hi.py ey).1;have hqb:=hq.bounds;have hqs:=fC hq;by_cases q2:q.kind=2
      ·simp [hdK,q2]
       refine R.swap.left ?_;simp;refine R.swap.take q2 (Nat.le_refl _) (λh5 R=>?_);have R:=R.swap;have e5:=R.o 5000 (by decide) (by decide) (by decide);have e6:=R.o 5001 (by decide) (by decide) (by decide);have e7:=R.o 576 (by decide) (by decide) (by decide);simp;have hc:fM X Y=some ([dI q (psz q)],p::x',aV q (psz q)::y'):=by simp [fM,ex,ey,q2,p3]
       have hf:=fin R.cx R.cy hc;rw [cV hq] at hf;have hpsz:psz q=q.signs.length:=by have:=hqb.2.2.2.2.1 q2;unfold psz;omega
       have htk:q.signs.take (psz q)=q.signs:=List.take_of_length_le (by omega);rw [<- List.map_take,htk];refine lU (L:=BL) (P:=BP) (D:=BD) (Hl:=H) (Hp:=G) (by omega) (by omega) (by simp [e7,g7]) (by simp [e6,g6]) (λHp' h' k576 k5001 k5000 ko=>?_);have R:=R.rebase (h':=h') (ko 496 (by decide) (by decide) (by decide) (by decide)) (ko 544 (by decide) (by decide) (by decide) (by decide));simp;refine Ent.refl ⟨_,_,_,_,_,hf.1,hf.2,H,Hp',?_⟩;rw [cW,hBe];simp [cM,q2,R.gx,R.gy,k576,k5001,k5000,e5,g5]
      ·simp [hdK,q2]
       refine R.left ?_;simp;refine R.swap.left ?_;simp;refine aa.pure (Dp (psz p) (psz q)) (by simp) ?_;have pp:=dn ex;have qp:=dn ey;obtain ⟨n,hn⟩:∃ n,min (psz p) (psz q)=n:=⟨_,rfl⟩;rw [hn];simp;refine R.kind (by omega) (λh5 i3 d3 R=>?_);rw [<- ex,cw,ex] at R;rw [<- ex,cw,ex];simp [hdK];refine R.swap.kind (by omega) (λh6 j3 e3 R=>?_);have R:=R.swap;rw [<- ey,cw,ey] at R;rw [<- ey,cw,ey];simp [hdK];have hc:fM X Y=some (if q.kind=1 then [dI p n] else if p.kind=1 then [dI q n] else [],aV p n::x',aV q n::y'):=by simp [fM,ex,ey,p3,q2,hn]
       obtain ⟨mx,hmx⟩:∃ m,d3+n=m:=⟨_,rfl⟩;obtain ⟨my,hmy⟩:∃ m,e3+n=m:=⟨_,rfl⟩;have ewx:Go.IntKind.i64.wrap ((d3:Int)+(n:Int))=(mx:Int):=by rw [Go.IntWalk.i64_in _ (by have:=R.cx.bnd;omega)];omega
       have ewy:Go.IntKind.i64.wrap ((e3:Int)+(n:Int))=(my:Int):=by rw [Go.IntWalk.i64_in _ (by have:=R.cy.bnd;omega)];omega
       have cxx:=R.cx.add (n:=n) (by omega);have cyy:=R.cy.add (n:=n) (by omega);rw [hmx] at cxx;rw [hmy] at cyy;have hf:=fin cxx cyy hc;have e5:=R.o 5000 (by decide) (by decide) (by decide);have e6:=R.o 5001 (by decide) (by decide) (by decide);have e7:=R.o 576 (by decide) (by decide) (by decide);have gx:=R.gx;have gy:=R.gy;by_cases p2:p.kind=2
       ·by_cases q1:q.kind=1
        ·simp only [q1,if_true] at hf
         simp [p2,q1];refine R.take p2 (n:=n) (by omega) (λh7 R=>?_);rw [hmx] at R;have e5:=R.o 5000 (by decide) (by decide) (by decide);have e6:=R.o 5001 (by decide) (by decide) (by decide);have e7:=R.o 576 (by decide) (by decide) (by decide);simp;rw [<- List.map_take];refine lU (L:=BL) (P:=BP) (D:=BD) (Hl:=H) (Hp:=G) (by omega) (by simp;omega) (by simp [e7,g7]) (by simp [e6,g6]) (λHp' h' k576 k5001 k5000 ko=>?_);have R:=R.rebase (h':=h') (ko 496 (by decide) (by decide) (by decide) (by decide)) (ko 544 (by decide) (by decide) (by decide) (by decide));simp [R.gy,ewy];refine Ent.refl ⟨_,_,_,_,_,hf.1,hf.2,H,Hp',?_⟩;rw [cW,hBe];have hpk:(dI p n).signs=p.signs.take n:=by simp [dI,p2]
         simp [cM,p2,hpk,R.gx,k576,k5001,k5000,e5,g5,List.map_take]
        ·have p1:¬ p.kind=1:=by omega
         simp only [q1,p1,if_false] at hf;simp [p2,q1,gx,gy,ewx,ewy];refine Ent.refl ⟨_,_,_,_,_,hf.1,hf.2,H,G,?_⟩;simp [hBe,e5,e6,e7,g5,g6,g7]
       ·have p1:p.kind=1:=by omega
        by_cases q1:q.kind=1
        ·simp only [q1,if_true] at hf
         simp [p2,q1];have f2:=gg (P:=BP) k3 k4 k5;have hpk:(dI p n).n=n:=by simp [dI,p2]
         refine ww (n:=(n:Int)) (L:=BL) (P:=BP) (D:=BD) (Hl:=H) (Hp:=G) (by omega) (by omega) (by omega) (by omega) (λq hq=>by have:=f2 q hq;omega) (by simp [e7,g7]) (by simp [e5,g5]) (by simp [e6,g6]) (λHl' h' k576 k5000 ko=>?_);have R:=R.rebase (h':=h') (ko 496 (by decide) (by decide) (by decide) (by decide)) (ko 544 (by decide) (by decide) (by decide) (by decide));simp [R.gx,R.gy,ewx,ewy];refine Ent.kill 5001 (Ent.refl ⟨_,_,_,_,_,hf.1,hf.2,Hl',none,?_⟩);rw [cW,hBe];have n0:0<n:=by omega
         simp [cM,p1,hpk,n0,k576,k5000]
        ·simp only [q1,p1,if_true,if_false] at hf
         simp [p2,q1];have q3:q.kind=3:=by omega
         have hpk:(dI q n).n=n:=by simp [dI,q2]
         refine ow (n:=(n:Int)) (D:=BD) (by omega) (by omega) (e7.trans g7) (λh' k576 ko=>?_);have R:=R.rebase (h':=h') (ko 496 (by decide)) (ko 544 (by decide));have h5:=ko 5000 (by decide);have h6:=ko 5001 (by decide);simp [R.gx,R.gy,ewx,ewy];refine Ent.refl ⟨_,_,_,_,_,hf.1,hf.2,H,G,?_⟩;rw [cW,hBe];simp [cM,q3,hpk,k576,h5,h6,e5,g5,e6,g6]
end Go.Proofs.YtibkifnmhkealaaGreatDoor
