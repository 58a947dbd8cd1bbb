import Derived.Test.YthckkpphnmmfdaaGreatDoorPH
import Derived.Test.YthckkpphnmmfdaaGreatDoorPG
import Derived.Test.YthckkpphnmmfdaaGreatDoorMF
import Derived.Lib.AtoiErrMem
import Derived.Lib.ConvBytes
import Derived.Lib.Hide
namespace Go.Proofs.YthckkpphnmmfdaaGreatDoor
open Go.AM
set_option maxRecDepth 20000
set_option maxHeartbeats 6400000
attribute [local simp] gQ e8 bL eL eZ
theorem I3 {l:List (List UInt8)} {B:Nat} (h:∀ w∈l,w.length<=B):Lib.lens l<=B*l.length:=by
 induction l with
 |nil=>simp [Lib.lens]
 | cons x l ih =>
   have h1:=h x (by simp);have h2:=ih λw hw=>h w (by simp [hw])
   have e:Lib.lens (x::l)=x.length+Lib.lens l:=by simp [Lib.lens]
   rw [e,List.length_cons,Nat.mul_succ];omega
theorem wx {l:List (List UInt8)} {B:Nat} {c:UInt8} (h:∀ w∈l,w.length<=B):(Lib.join l [c]).length<=(B+1)*l.length:=by
 cases l with
 |nil=>simp [Lib.join_nil]
 | cons x l =>
   rw [Lib.join_length];have:=I3 h;rw [Nat.add_mul];simp at this ⊢;omega
theorem cU (n:Int):(aJ n).length<=10:=by
 unfold aJ
 split
 ·exact Bk 9 _ (by omega)
 ·simp
theorem ov (l:List Int):(gD l).length<=11*l.length:=by
 have h:=wx (l:=l.map aJ) (B:=10) (c:=46) (λw hw=>by obtain ⟨n,-,rfl⟩:=List.mem_map.1 hw;exact cU n)
 simpa [gD] using h
theorem oV (l:List Int) (hl:l.length<=2 ^ 40):bZ Tryz.prog LT 89 [.c (.s (l.map bc))] (.one (.c (vs (gD l)) 1)):=by
 refine bZ.intro' ag LT.stay Tryz.func89 (by kernel_rfl) rfl rfl rfl (Nat.le_of_ble_eq_true rfl) (λw0 base hE=>?_);simp;refine ar hE (λx:Nat×Hd=>x.1<=l.length) (λx=>⟨20,0,[(8,.v (.int .i64 x.1)),(7,.v (.int .i64 l.length)),(6,.ro (l.map bc)),(3,.sl 5000 x.2 1 0 x.1)],[(5000,.rows x.2 1 (((l.take x.1).map aJ).map wR) true)]⟩) (λx=>l.length - x.1) (0,none) (by simp) (by simp) (λx hx=>Ent.refl ?_);obtain ⟨i,H⟩:=x;simp only at hx ⊢;by_cases hlt:i<l.length
 ·simp [hlt]
  refine ac hE (bD l[i]) (by simp) ?_;simp;intro b;have e1:i=min i l.length:=by omega
  refine ⟨e1,by omega,λH2=>Ent.refl ⟨i+1,by omega,by omega,H2,?_⟩⟩;simp;exact ⟨aB (by omega),eV (f:=wR ∘ aJ) hlt⟩
 ·have e:i=l.length:=by omega
  subst e;simp;refine ac hE (Gn (l.map aJ) 46 (by simpa using hl) (by have:=ov l;unfold gD at this;omega)) (by simp) ?_;simp [gD]
theorem sE (l:List Int) (hl:l.length<=2 ^ 40):bZ Tryz.prog LT 47 [.c (.s (l.map bc))] (.one (.c (vs (dE l)) 1)):=by
 refine bZ.intro' ag LT.stay Tryz.func47 (by kernel_rfl) rfl rfl rfl (Nat.le_of_ble_eq_true rfl) (λw0 base hE=>?_);simp;refine aa.pure (ig l hl) (by simp) ?_;by_cases h:cr l
 ·by_cases h0:l=[]
  ·have e:dE l=[45]:=by unfold dE;rw [if_pos h,if_pos h0]
   have h0':(l.length:Int)=0:=by rw [h0];rfl
   simp [h,h0',e]
  ·have e:dE l=gD l:=Aj h h0
   have h0':¬ (l.length:Int)=0:=by have:=List.length_pos_iff.2 h0;omega
   simp [h,h0,e];refine ac hE (oV l hl) (by simp) ?_;simp
 ·have e:dE l=[]:=by unfold dE;rw [if_neg h]
  simp [h,e]
theorem j9 (s:List UInt8) (hl:s.length<=2 ^ 31):bZ Tryz.prog LT 100 [.c (vs s)] (.tup [.c (.s ((qU (dg s)).1.map bc)) 1,.c (.v (.bool (qU (dg s)).2)) 1]):=by
 refine bZ.intro' ag LT.stay Tryz.func100 (by kernel_rfl) rfl rfl rfl (Nat.le_of_ble_eq_true rfl) (λw0 base hE=>?_);simp;refine ac hE (BU s 46 hl) (by simp) ?_;simp;intro H;obtain ⟨W,hW⟩:∃ W,aK 46 s=W:=⟨_,rfl⟩;have hlen:=(dD 46 s).1;have hw:=(dD 46 s).2;have hrd:dg s=dr fT W:=by unfold dg;rw [hW]
 rw [hW] at hlen hw ⊢
 refine ar hE (λx:Nat×List Int×Hd=>x.1<=W.length/\x.2.1.length=x.1/\dg s=(dr fT (W.drop x.1)).map (x.2.1 ++ ·)) (λx=>⟨29,0,[(12,.v (.int .i64 x.1)),(11,.v (.int .i64 W.length)),(10,.sl 160 H 1 0 W.length),(4,.sl 5000 x.2.2 1 0 x.2.1.length),(3,.v (.bool false)),(2,.nil)],
  [(160,.rows H 1 (W.map wR) true),(5000,.rows x.2.2 1 (x.2.1.map bc) true)]⟩) (λx=>W.length - x.1) (0,[],none) ⟨by simp,by simp,by simp [hrd]⟩ (by simp) (λx hi=>Ent.refl ?_)
 obtain ⟨i,out,K⟩:=x;obtain ⟨h1,h2,h3⟩:=hi;simp only at h1 h2 h3 ⊢;by_cases hlt:i<W.length
 ·have hx:=hw W[i] (List.getElem_mem hlt)
  have hst:dg s=(fT W[i]).bind λy=>(dr fT (W.drop (i+1))).map λr=>out++(y::r):=by
   rw [h3,u7 hlt]
   cases fT W[i]<;>simp [Function.comp_def]
  simp [hlt,wR];refine ac hE (np W[i] (by omega)) (by simp) ?_;by_cases hok:(bv W[i]).2=true
  ·have hn:fT W[i]=some (bv W[i]).1:=by unfold fT;rw [if_pos hok]
   simp [hok];intro b;refine ⟨by omega,λH1=>Ent.refl ⟨i+1,out++[(bv W[i]).1],⟨by omega,by simp;omega,?_⟩,by omega,H1,?_⟩⟩
   ·rw [hst,hn];simp
   ·simp
    exact aB (by omega)
  ·have hn:fT W[i]=none:=by unfold fT;rw [if_neg hok]
   have hr:dg s=none:=by rw [hst,hn];rfl
   have hok':(bv W[i]).2=false:=by simpa using hok
   simp [hok',hr,qU]
 ·have e:i=W.length:=by omega
  have hm:dg s=some out:=by rw [h3,List.drop_of_length_le (by omega)];simp [dr]
  simp [hlt,hm,qU]
theorem IU {α β:Type} {f:α->Option β} {W:List α} {l:List β} (h:dr f W=some l):l.length<=W.length:=Nat.le_of_eq (yJ h)
theorem r6 {s:List UInt8} {l:List Int} (h:dg s=some l):l.length<=s.length+1:=Nat.le_trans (IU h) (dD 46 s).1
theorem mc (s:List UInt8) (hl:s.length<=2 ^ 31):bZ Tryz.prog LT 65 [.c (vs s)] (.tup [.c (.s ((cu s).1.map bc)) 1,.c (.v (.bool (cu s).2)) 1]):=by
 refine bZ.intro' ag LT.stay Tryz.func65 (by kernel_rfl) rfl rfl rfl (Nat.le_of_ble_eq_true rfl) (λw0 base hE=>?_);by_cases hs:s=[45]
 ·subst hs
  simp [vT]
 ·obtain ⟨t1,t2,t3⟩:=tH hs
  simp [hs];refine ac hE (j9 s hl) (by simp) ?_
  cases hr:dg s with
  |none=>simp [qU,t3 hr]
  | some l =>
    have hll:=r6 hr;simp [qU];intro H;refine aa.pure (ig l (by omega)) (by simp) ?_;by_cases ho:cr l
    ·simp [ho,t1 l hr ho]
    ·simp [ho,t2 l hr ho]
theorem IA {p:Part} (h:am p):(aW p).length<=2201:=by
 have hb:=h.bounds;have h1:=cU p.n;have h2:=ov p.signs;unfold aW
 split
 ·simp;omega
 ·split<;>simp<;>omega
theorem pB (o:List Part):(bo o).length<=2500000:=by
 unfold bo
 split
 ·rename_i h
  split
  ·simp
  ·have h1:=(dA h).1
   have h2:=wx (l:=(a8 o).map aW) (B:=2201) (c:=32) (λw hw=>by obtain ⟨p,hp,rfl⟩:=List.mem_map.1 hw;exact IA (h1.1.1 p hp));have h3:=h1.1.2;simp at h2;omega
 ·simp
end Go.Proofs.YthckkpphnmmfdaaGreatDoor
namespace Go.AM
open Go.RowKit
mutual
def fz (k:Nat) (H:Hd) (sz:Nat) (rs:List (List CD)):AV->AV
 | .sl k' H' sz' off len=>if k'=k then (if H'=H/\sz'=sz/\off+len<=rs.length then .ro (cut rs off len) else .any) else .sl k' H' sz' off len
 | .agg l=>.agg (fzL k H sz rs l)
 | .tup l=>.tup (fzL k H sz rs l)
 | .clo f l=>.clo f (fzL k H sz rs l)
 | .any=>.any
 | .un=>.un
 | .nil=>.nil
 | .v u=>.v u
 | .ro r=>.ro r
 | .p a b c=>.p a b c
 | .e a b c d e=>.e a b c d e
 | .rp r=>.rp r
 | .cv u n=>.cv u n
 | .ml a b c d=>.ml a b c d
 | .is u=>.is u
def fzL (k:Nat) (H:Hd) (sz:Nat) (rs:List (List CD)):List AV->List AV
 | []=>[]
 |a::l=>fz k H sz rs a::fzL k H sz rs l
end
def fzO (k:Nat) (H:Hd) (sz:Nat) (rs:List (List CD)):AObj->AObj
 | .vars b T cells=>.vars b T (fzL k H sz rs cells)
 |o=>o
def fzT (k:Nat) (H:Hd) (sz:Nat) (rs:List (List CD)) (t:List (Nat×AV)):List (Nat×AV):=t.map λp=>(p.1,fz k H sz rs p.2)
def fzH (k:Nat) (H:Hd) (sz:Nat) (rs:List (List CD)):AH->AH
 | []=>[]
 |(i,o)::h=>(i,fzO k H sz rs o)::fzH k H sz rs h
section rules
variable {k:Nat} {H:Hd} {sz:Nat} {rs:List (List CD)}
theorem Jh:fzT k H sz rs []=[]:=(rfl)
theorem GE {i:Nat} {v:AV} {t:List (Nat×AV)}:fzT k H sz rs ((i,v)::t)=(i,fz k H sz rs v)::fzT k H sz rs t:=(rfl)
theorem GJ {i:Nat} {o:AObj} {h:AH}:fzH k H sz rs ((i,o)::h)=(i,fzO k H sz rs o)::fzH k H sz rs h:=(rfl)
theorem Jk:fzH k H sz rs []=[]:=(rfl)
theorem y9:∀ (W:d4) (i:Nat),fzH k H sz rs (fY i W)=fY i W
 | [],i=>rfl
 | q :: l, i => by
   have e:∀ xs:List Value,fzL k H sz rs (xs.map .is)=xs.map .is:=by
    intro xs
    induction xs with
    |nil=>rfl
    |cons x xs ih=>simp [fzL,fz,ih]
   simp [fY,fzH,phO,fzO,e,y9 l]
theorem Jj {W:d4}:fzH k H sz rs (phs W)=phs W:=y9 W _
theorem GF {b:Nat} {T:TypeId} {l:List AV}:fzO k H sz rs (.vars b T l)=.vars b T (fzL k H sz rs l):=(rfl)
theorem GG {H':Hd} {sz':Nat} {r:List (List CD)} {own:Bool}:fzO k H sz rs (.rows H' sz' r own)=.rows H' sz' r own:=(rfl)
theorem GH:fzO k H sz rs .dead=.dead:=(rfl)
theorem Ji:fzL k H sz rs []=[]:=by simp [fzL]
theorem GI {a:AV} {l:List AV}:fzL k H sz rs (a::l)=fz k H sz rs a::fzL k H sz rs l:=by rw [fzL]
theorem RW {u:Value}:fz k H sz rs (.v u)=.v u:=by rw [fz]
theorem ME:fz k H sz rs .any=.any:=by rw [fz]
theorem Pv:fz k H sz rs .un=.un:=by rw [fz]
theorem MC:fz k H sz rs .nil=.nil:=by rw [fz]
theorem Py {r:List (List CD)}:fz k H sz rs (.ro r)=.ro r:=by rw [fz]
theorem Px {r:List CD}:fz k H sz rs (.rp r)=.rp r:=by rw [fz]
theorem PA {u:Value} {n:Nat}:fz k H sz rs (.cv u n)=.cv u n:=by rw [fz]
theorem Pz {a c d:Nat} {b:Hd}:fz k H sz rs (.ml a b c d)=.ml a b c d:=by rw [fz]
theorem RX {a b c:Nat}:fz k H sz rs (.p a b c)=.p a b c:=by rw [fz]
theorem RY {a c d e:Nat} {b:Hd}:fz k H sz rs (.e a b c d e)=.e a b c d e:=by rw [fz]
theorem MF {l:List AV}:fz k H sz rs (.agg l)=.agg (fzL k H sz rs l):=by rw [fz]
theorem MB {l:List AV}:fz k H sz rs (.tup l)=.tup (fzL k H sz rs l):=by rw [fz]
theorem MD {f:Nat} {l:List AV}:fz k H sz rs (.clo f l)=.clo f (fzL k H sz rs l):=by rw [fz]
theorem Pw {k' sz' off len:Nat} {H':Hd}:fz k H sz rs (.sl k' H' sz' off len)=if k'=k then (if H'=H/\sz'=sz/\off+len<=rs.length then .ro (cut rs off len) else .any) else .sl k' H' sz' off len:=by rw [fz]
end rules
attribute [simp] Jh GE GJ Jk Jj GF GG GH Ji GI RW ME Pv MC Py Px PA Pz RX RY MF MB MD Pw
open Go.RowKit
theorem bg.ent {E:Env} {body:Code} {Q:Exit->ASt->Prop} {st:ASt} (h:Ent E st (bg E body Q)):bg E body Q st:=λa w hR=>by
 obtain ⟨st',h1,h2⟩:=h a w hR;exact h1 a w h2
end Go.AM
namespace Go.Proofs.YthckkpphnmmfdaaGreatDoor
open Go.AM
set_option maxRecDepth 20000
set_option maxHeartbeats 6400000
attribute [local simp] gQ e8 bL eL eZ
theorem AD {α:Type} {f:α->Nat} {a:α}:nL f [a]=f a+1:=by simp [nL,cf];omega
theorem yy {o:List Part} (h:aX o) (h0:a8 o=[]):bo o=[45]:=by unfold bo;rw [if_pos h,if_pos h0]
theorem yz {o:List Part} (h:aX o) (h0:a8 o≠[]):bo o=Lib.join ((a8 o).map aW) [32]:=by unfold bo;rw [if_pos h,if_neg h0]
theorem oT (o:List Part) (hl:nL aC o<=2 ^ 40):bZ Tryz.prog LT 92 [.c (.s (o.map Part.row))] (.one (.c (vs (bo o)) 1)):=by
 refine bZ.intro' ag LT.stay Tryz.func92 (by kernel_rfl) rfl rfl rfl (Nat.le_of_ble_eq_true rfl) (λw0 base hE=>?_);simp;refine aa.pure (jd o hl) (by simp) ?_;by_cases h:aX o
 rotate_left
 ·have e:bo o=[]:=by unfold bo;rw [if_neg h]
  simp [h,e]
 simp [h];refine aa.pure (oU o hl) (by simp) ?_;obtain ⟨h1,h2⟩:=dA h;have hz:=yy h;have hs:=yz h;have hle:=pB o;generalize bo o=T at hz hs hle ⊢;have hsh:=sj (dA h);generalize a8 o=q at h1 hz hs hsh ⊢;have hlen:=h1.1.2;simp;intro H;refine bg.ent (pl 10 160 (by simp;exact ⟨rfl,rfl,rfl,rfl⟩) (by simp;exact ⟨rfl,rfl⟩) (by simp) (Ent.refl ?_));simp
 refine ar hE (λx:Nat×Hd=>x.1<=q.length) (λx=>⟨49,0,[(12,.v (.int .i64 x.1)),(11,.v (.int .i64 q.length)),(10,.ro (q.map Part.row)),(3,.sl 5000 x.2 1 0 x.1)],
  [(5000,.rows x.2 1 (((q.take x.1).map aW).map wR) true)]⟩) (λx=>q.length - x.1) (0,none) (by simp) (by simp) (λx hx=>Ent.refl ?_)
 obtain ⟨i,K⟩:=x;simp only at hx ⊢;by_cases hlt:i<q.length
 rotate_left
 ·have e:i=q.length:=by omega
  subst e;by_cases h0:q=[]
  ·subst h0
   simp [hz rfl]
  ·simp [h0]
   refine ac hE (Gn (q.map aW) 32 (by simp;omega) (by rw [<- hs h0];omega)) (by simp) ?_;simp [hs h0]
 have hpt:=hsh q[i] (List.getElem_mem hlt);have hok:=h1.1.1 q[i] (List.getElem_mem hlt);obtain ⟨⟨k,n,s⟩,hp⟩:∃ p,q[i]=p:=⟨_,rfl⟩;have hps:aW q[i]=aW ⟨k,n,s⟩:=by rw [hp]
 rw [hp] at hpt hok;have hb:=hok.bounds;simp only at hb;simp [hlt,hp,Part.row];intro b5;have e1:i=min i q.length:=by omega
 have h10:=cU n;by_cases k1:k=1
 ·have hT:aW q[i]=107::aJ n:=by rw [hps,k1];simp [aW]
  simp [k1];refine ac hE (bD n) (by simp) ?_;simp;refine ⟨by omega,λb=>⟨e1,by omega,λH2=>Ent.refl ⟨i+1,by omega,by omega,H2,?_⟩⟩⟩;simp;exact ⟨aB (by omega),by rw [<- hT];exact eV (f:=wR ∘ aW) hlt⟩
 by_cases k3:k=3
 ·have hT:aW q[i]=100::aJ n:=by rw [hps,k3];simp [aW]
  simp [k3];refine ac hE (bD n) (by simp) ?_;simp;refine ⟨by omega,λb=>⟨e1,by omega,λH2=>Ent.refl ⟨i+1,by omega,by omega,H2,?_⟩⟩⟩;simp;exact ⟨aB (by omega),by rw [<- hT];exact eV (f:=wR ∘ aW) hlt⟩
 have k2:k=2:=by omega
 have hT:aW q[i]=112::gD s:=by rw [hps,k2];simp [aW]
 have hsl:=ov s;simp [k2];refine ac hE (oV s (by omega)) (by simp) ?_;simp;refine ⟨by omega,λb=>⟨e1,by omega,λH2=>Ent.refl ⟨i+1,by omega,by omega,H2,?_⟩⟩⟩;simp;exact ⟨aB (by omega),by rw [<- hT];exact eV (f:=wR ∘ aW) hlt⟩
theorem pI (s:List UInt8) (hl:s.length<=2 ^ 31):bZ Tryz.prog LT 58 [.c (vs s)] (.one (.c (.s ((aK 32 s).map wR)) 1)):=by
 refine bZ.intro' ag LT.stay Tryz.func58 (by kernel_rfl) rfl rfl rfl (Nat.le_of_ble_eq_true rfl) (λw0 base hE=>?_);simp;refine ac hE (BU s 32 hl) (by simp) ?_;simp
def ge (s:List UInt8):List UInt8:=s.map λx=>if x=32 then 44 else x
def d5 (s:List UInt8):List UInt8:=s.map λx=>if x=44 then 32 else x
theorem oS (o:List Part) (hl:nL aC o<=2 ^ 40):bZ Tryz.prog LT 49 [.c (.s (o.map Part.row))] (.one (.c (vs (ge (bo o))) 1)):=by
 refine bZ.intro' ag LT.stay Tryz.func49 (by kernel_rfl) rfl rfl rfl (Nat.le_of_ble_eq_true rfl) (λw0 base hE=>?_);have hle:=pB o;simp;refine ac hE (oT o hl) (by simp) ?_;simp;refine ac hE (uP (bo o) 32 44 (by decide) (by omega)) (by simp) ?_;simp [ge]
theorem wB (s:List UInt8) (hl:s.length<=2 ^ 30):bZ Tryz.prog LT 98 [.c (vs s)] (.tup [.c (.s ((cK s).1.map Part.row)) 3,.c (.v (.bool (cK s).2)) 1]):=by
 refine bZ.intro' ag LT.stay Tryz.func98 (by kernel_rfl) rfl rfl rfl (Nat.le_of_ble_eq_true rfl) (λw0 base hE=>?_);by_cases hs:s=[45]
 ·subst hs
  simp [zY]
 simp [hs];refine ac hE (pI s (by omega)) (by simp) ?_;simp;intro H;have hI:=λout=>Fr (out:=out) hs
 have hN:=xK (f:=fM) (λp h hn=>rF h hn) hs;have hlen:=(dD 32 s).1;have hw:=(dD 32 s).2;have hsum:=sx 32 s;generalize aK 32 s=W at hlen hw hsum hI hN ⊢
 refine ar hE (λx:Nat×List Part×Hd=>x.1<=W.length/\x.2.1.length=x.1/\nL aC x.2.1+yN (W.drop x.1)<=s.length+1/\dr fM W=(dr fM (W.drop x.1)).map (x.2.1 ++ ·)) (λx=>⟨65,0,[(14,.v (.int .i64 x.1)),(13,.v (.int .i64 W.length)),(12,.sl 192 H 1 0 W.length),(4,.sl 5000 x.2.2 3 0 x.2.1.length),(3,.v (.bool false)),(2,.nil),(0,.v (.string (bs s)))],
  [(192,.rows H 1 (W.map wR) true),(5000,.rows x.2.2 3 (x.2.1.map Part.row) true)]⟩) (λx=>W.length - x.1) (0,[],none) ⟨by simp,by simp,Nat.le_of_eq (by rw [List.drop_zero,hsum];exact Nat.zero_add _),by simp⟩ (by simp) (λx hi=>Ent.refl ?_)
 obtain ⟨i,out,K⟩:=x;obtain ⟨h1,h2,h3,h4⟩:=hi;simp only at h1 h2 h3 h4 ⊢;by_cases hlt:i<W.length
 rotate_left
 ·have e:i=W.length:=by omega
  have hm:dr fM W=some out:=by rw [h4,List.drop_of_length_le (by omega)];simp [dr]
  obtain ⟨y1,y2⟩:=hI out hm;simp [hlt];refine aa.pure (jd out (by omega)) (by simp) ?_;by_cases ho:aX out
  rotate_left
  ·simp [ho,y2 (λh=>ho h.1)]
  simp [ho];refine ac hE (oT out (by omega)) (by simp) ?_;by_cases ht:bo out=s
  rotate_left
  ·simp [ht,y2 (λh=>ht h.2)]
  simp [ht,y1 ⟨ho,ht⟩];refine aa.pure (oU out (by omega)) (by simp) ?_;simp
 have hst:dr fM W=(fM W[i]).bind λy=>(dr fM (W.drop (i+1))).map λr=>out++(y::r):=by
  rw [h4,u7 hlt]
  cases fM W[i]<;>simp [Function.comp_def]
 have hx:=hw W[i] (List.getElem_mem hlt);have hld:=Dd hlt;obtain ⟨w,hwi⟩:∃ w,W[i]=w:=⟨_,rfl⟩;rw [hwi] at hst hx hld;simp [hlt,wR,hwi]
 cases w with
 | nil =>
   have hr:dr fM W=none:=by rw [hst];rfl
   simp [hN hr]
 | cons c y =>
   have hext:(bs (c::y)).extract 1 (y.length+1)=bs y:=by rw [MX];simp
   have hget:∀ h,(bs (c::y))[0]'h=c:=λh=>by rw [MW];rfl
   simp only [List.length_cons] at hx hld;simp [hext];refine ac hE (j9 y (by omega)) (by simp) ?_
   cases hrd:dg y with
   | none =>
     have hr:dr fM W=none:=by rw [hst];simp [fM,hrd]
     simp [qU,hN hr]
   | some l =>
     have hl0:=yl hrd;have hl1:=r6 hrd;simp [qU];intro H1;by_cases k1:c=107
     ·have k1':(c.toNat:Int)=107:=by rw [k1];rfl
      have hwd:fM (c::y)=some ⟨1,l[0],[]⟩:=by simp [fM,hrd,k1,hl0]
      simp [hget,k1',hl0];intro b;refine ⟨by omega,λH2=>Ent.refl ⟨i+1,out++[⟨1,l[0],[]⟩],⟨by omega,by simp;omega,?_,?_⟩,by omega,H2,?_⟩⟩
      ·rw [j5,AD]
       simp only [aC,List.length_nil];omega
      ·rw [hst,hwd];simp
      ·simp [Part.row]
       exact aB (by omega)
     have k1':¬ (c.toNat:Int)=107:=λh=>k1 (UInt8.toNat_inj.1 (by simpa using Int.ofNat.inj h))
     by_cases k2:c=100
     ·have k2':(c.toNat:Int)=100:=by rw [k2];rfl
      have hwd:fM (c::y)=some ⟨3,l[0],[]⟩:=by simp [fM,hrd,k2,hl0]
      simp [hget,k2',hl0];intro b;refine ⟨by omega,λH2=>Ent.refl ⟨i+1,out++[⟨3,l[0],[]⟩],⟨by omega,by simp;omega,?_,?_⟩,by omega,H2,?_⟩⟩
      ·rw [j5,AD]
       simp only [aC,List.length_nil];omega
      ·rw [hst,hwd];simp
      ·simp [Part.row]
       exact aB (by omega)
     have k2':¬ (c.toNat:Int)=100:=λh=>k2 (UInt8.toNat_inj.1 (by simpa using Int.ofNat.inj h))
     have hwd:fM (c::y)=some ⟨2,0,l⟩:=by simp [fM,hrd,k1,k2]
     simp [hget,k1',k2'];intro b;refine ⟨by omega,λH2=>Ent.refl ⟨i+1,out++[⟨2,0,l⟩],⟨by omega,by simp;omega,?_,?_⟩,by omega,H2,?_⟩⟩
     ·rw [j5,AD]
      simp only [aC];omega
     ·rw [hst,hwd];simp
     ·simp [Part.row]
      exact aB (by omega)
end Go.Proofs.YthckkpphnmmfdaaGreatDoor
namespace Go.Proofs.YthckkpphnmmfdaaGreatDoor
open Go.AM
set_option maxRecDepth 20000
set_option maxHeartbeats 6400000
attribute [local simp] gQ e8 bL eL eZ
end Go.Proofs.YthckkpphnmmfdaaGreatDoor
namespace Go.Proofs.YthckkpphnmmfdaaGreatDoor
open Go.AM
set_option maxRecDepth 20000
set_option maxHeartbeats 6400000
attribute [local simp] gQ e8 bL eL eZ
theorem mM (o:List Part):(ge (bo o)).length<=2500000:=by have:=pB o;simpa [ge] using this
end Go.Proofs.YthckkpphnmmfdaaGreatDoor
namespace Go.Proofs.YthckkpphnmmfdaaGreatDoor
open Go.AM Go.RowKit
set_option maxRecDepth 100000
set_option maxHeartbeats 4000000
def li (w0:World) (b:Nat) (l:List UInt8) (W:World):Prop:=
 Below w0.heap.size w0 W/\w0.heap.size<=b/\∃ cs:Array Value,W.heap[b]? = some (.cells cs 5 (cs.size,cs.size+1))/\∀ (j:Nat) (h:j<l.length),cs[j]? = some (.int .u8 l[j].toNat)
theorem li.cell {w0:World} {b:Nat} {l:List UInt8} {W:World} (h:li w0 b l W) {j:Nat} (hj:j<l.length):W.cell? ⟨b,j,none⟩=some (.int .u8 l[j].toNat):=by
 obtain ⟨-,-,cs,hb,hc⟩:=h;unfold World.cell?;rw [hb];exact hc j hj
theorem li.set {w0:World} {b:Nat} {l:List UInt8} {W:World} (h:li w0 b l W) {j:Nat} (hj:j<l.length) (x:UInt8):li w0 b (l.set j x) (W.setCell ⟨b,j,none⟩ (.int .u8 x.toNat)):=by
 obtain ⟨h1,h2,cs,hb,hc⟩:=h;have hlt:=dl hb;refine ⟨h1.trans ⟨rfl,rfl,rfl,by simp [World.setCell],λk hk=>?_⟩,h2,cs.setIfInBounds j (.int .u8 x.toNat),?_,λi hi=>?_⟩
 ·have:b≠k:=by have:=h1.size;omega
  simp [World.setCell,Array.getElem?_modify,this]
 ·simp [World.setCell,Array.getElem?_modify,hb]
 ·rw [List.length_set] at hi
  rw [Array.getElem?_setIfInBounds];by_cases e:j=i
  ·subst e
   have:=(Array.getElem?_eq_some_iff.1 (hc j hj)).1;simp [this]
  ·rw [if_neg e,hc i hi,List.getElem_set_ne e]
theorem li.text {w0:World} {b:Nat} {l:List UInt8} {W:World} (h:li w0 b l W) (hl:l.length<=2 ^ 40) (c:Nat) {s d e:TypeId} (hs:Tryz.prog.underlying s=some (.slice e)) (he:Tryz.prog.underlying e=some (.int .u8)) (hd:Tryz.prog.underlying d=some .string) :
 (convert s d (.slice (some ⟨b,0,none⟩) l.length c)).run Tryz.prog W=.ok (.string (bs l)) W:=by
 rw [run_convert_bytes_string W s d e _ _ _ hs he hd];obtain ⟨-,-,cs,hb,hc⟩:=h
 have hr:Rd W false (λ_=>True) (.slice (some ⟨b,0,none⟩) (l.map dK).length (l.map dK).length) (.s (l.map dK)):=by
  refine .slice b 0 _ 1 cs _ _ _ (λ_ _ _=>False) (Nat.le_refl _) (by rw [List.length_map];unfold maxLen;omega) (by omega) trivial hb ?_ (λh=>by cases h) (λ_ _ _ h=>h.elim) (λh=>by cases h) (by simp [dK]) ?_
  ·cases hn:l.length with
   |zero=>simp [hn]
   | succ n =>
     have:=(Array.getElem?_eq_some_iff.1 (hc n (by omega))).1;simp [hn];omega
  ·intro i j row x hi hj
   rw [List.getElem?_map] at hi
   cases hx:l[i]? with
   |none=>rw [hx] at hi;cases hi
   | some y =>
     rw [hx] at hi
     cases hi
     obtain ⟨hil,rfl⟩:=List.getElem?_eq_some_iff.1 hx
     match j,hj with
     | 0, hj =>
       cases hj
       have h1:=hc i hil;have e3:0+(i*1+0)=i:=by omega
       rw [e3,Array.getD_eq_getD_getElem?,h1];exact .plain rfl
 have:=(s7 (P:=Tryz.prog) hr).1;rw [List.length_map] at this;exact this
open Go.AM
set_option maxRecDepth 20000
set_option maxHeartbeats 6400000
attribute [local simp] gQ e8 bL eL eZ wR
theorem w64 {j:Int} (h0:0<=j) (h1:j<1000):IntKind.i64.wrap j=j:=Go.IntWalk.i64_in _ (by omega)
def d9 (k:Int):List UInt8:=if k=1 then [111,112,101,110] else if k=2 then [115,117,98,109,105,116] else if k=3 then [102,101,116,99,104] else if k=4 then [115,110,97,112] else if k=5 then [115,117,98] else if k=6 then [112,111,108,108] else if k=7 then [114,101,115,121,110,99] else if k=8 then [115,104,117,116] else []
def dq (k:Int):List UInt8:=if k=1 then [101,100,105,116] else if k=2 then [115,101,110,100] else if k=3 then [108,111,115,101] else if k=4 then [97,103,97,105,110] else if k=5 then [116,97,107,101] else if k=6 then [97,110,101,119] else []
theorem kP (k:Int):au Tryz.prog 46 [.c (vi k)] (.one (.c (vs (d9 k)) 1)):=by
 refine pci ag Tryz.func46 (λw0 base=>?_);simp;intro b;refine aa.pure (cQ k 1 8) (by simp) ?_;by_cases h:1<=k/\k<=8
 ·have hc:k=1\/k=2\/k=3\/k=4\/k=5\/k=6\/k=7\/k=8:=by omega
  rcases hc with rfl|rfl|rfl|rfl|rfl|rfl|rfl|rfl
  all_goals simp [d9,w64]
 ·have e:d9 k=[]:=by
   unfold d9;rw [if_neg (by omega)];rw [if_neg (by omega)];rw [if_neg (by omega)];rw [if_neg (by omega)];rw [if_neg (by omega)];rw [if_neg (by omega)];rw [if_neg (by omega)];rw [if_neg (by omega)]
  simp [h,e]
theorem lB (k:Int):au Tryz.prog 59 [.c (vi k)] (.one (.c (vs (dq k)) 1)):=by
 refine pci ag Tryz.func59 (λw0 base=>?_);simp;intro b;refine aa.pure (cQ k 1 6) (by simp) ?_;by_cases h:1<=k/\k<=6
 ·have hc:k=1\/k=2\/k=3\/k=4\/k=5\/k=6:=by omega
  rcases hc with rfl|rfl|rfl|rfl|rfl|rfl
  all_goals simp [dq,w64]
 ·have e:dq k=[]:=by
   unfold dq;rw [if_neg (by omega)];rw [if_neg (by omega)];rw [if_neg (by omega)];rw [if_neg (by omega)];rw [if_neg (by omega)];rw [if_neg (by omega)]
  simp [h,e]
end Go.Proofs.YthckkpphnmmfdaaGreatDoor
namespace Go.Proofs.YthckkpphnmmfdaaGreatDoor
open Go.AM
set_option maxRecDepth 20000
set_option maxHeartbeats 6400000
attribute [local simp] gQ e8 bL eL eZ
theorem p6 (l:List Int):(dE l).length<=11*l.length+1:=by
 have:=ov l;unfold dE
 split
 ·split
  ·simp
  ·omega
 ·simp
end Go.Proofs.YthckkpphnmmfdaaGreatDoor
namespace Go.Proofs.YthckkpphnmmfdaaGreatDoor
open Go.AM
set_option maxRecDepth 20000
set_option maxHeartbeats 6400000
attribute [local simp] gQ e8 bL eL eZ
def qV (n:Int):Prop:=0<=n/\n<=1000000000
theorem sN {k:Int}:dq k=[] ↔ ¬ (1<=k/\k<=6):=by
 constructor
 ·intro h hk
  have hc:k=1\/k=2\/k=3\/k=4\/k=5\/k=6:=by omega
  rcases hc with rfl|rfl|rfl|rfl|rfl|rfl
  all_goals exact absurd h (by decide)
 ·intro h
  unfold dq;rw [if_neg (by omega),if_neg (by omega),if_neg (by omega),if_neg (by omega),if_neg (by omega),if_neg (by omega)]
theorem pQ (k:Int):(dq k).length<=10:=by
 unfold dq
 (repeat' split)<;>decide
def fw (e:Event):Prop:=(1<=e.kind/\e.kind<=6)/\qV e.who/\qV e.n/\aX e.o/\(e.kind≠1->e.o=[])/\(e.kind≠5->e.n=0)
open Classical in
noncomputable def aP (e:Event):List UInt8:=if fw e then dq e.kind++32::(aJ e.who++(if e.kind=1 then 32::ge (bo e.o) else if e.kind=5 then 32::aJ e.n else [])) else []
theorem dm (e:Event) (hl:gY e<=2 ^ 40):bZ Tryz.prog LT 25 [.agg e.row] (.one (.c (vs (aP e)) 1)):=by
 refine bZ.intro' ag LT.stay Tryz.func25 (by kernel_rfl) rfl rfl rfl (Nat.le_of_ble_eq_true rfl) (λw0 base eok=>?_);have hno:¬ fw e->aP e=[]:=λh=>by unfold aP;rw [if_neg h]
 have hyes:fw e->aP e=dq e.kind++32::(aJ e.who++(if e.kind=1 then 32::ge (bo e.o) else if e.kind=5 then 32::aJ e.n else [])):=λh=>by unfold aP;rw [if_pos h]
 generalize aP e=T at hno hyes ⊢;obtain ⟨kind,who,n,o⟩:=e;unfold gY at hl;simp only at hl hyes;have hk:=pQ kind;have h1:=cU who;have h2:=cU n;have h3:=mM o;simp [Event.row];intro b;refine aa.pure (lB kind) (by simp) ?_;by_cases c1:1<=kind/\kind<=6
 rotate_left
 ·have hz:=sN.2 c1
  simp [hz,hno (λh=>c1 h.1)]
 have hz:¬ dq kind=[]:=λh=>sN.1 h c1
 simp [hz];refine aa.pure (cQ who 0 1000000000) (by simp) ?_;by_cases c2:0<=who/\who<=1000000000
 rotate_left
 ·simp [c2,hno (λh=>c2 h.2.1)]
 simp [c2];refine aa.pure (cQ n 0 1000000000) (by simp) ?_;by_cases c3:0<=n/\n<=1000000000
 rotate_left
 ·simp [c3,hno (λh=>c3 h.2.2.1)]
 simp [c3];refine aa.pure (jd o hl) (by simp) ?_;by_cases c4:aX o
 rotate_left
 ·simp [c4,hno (λh=>c4 h.2.2.2.1)]
 simp [c4];by_cases k1:kind=1
 ·by_cases c6:n=0
  ·have ok:fw ⟨kind,who,n,o⟩:=⟨c1,c2,c3,c4,λh=>absurd k1 h,λ_=>c6⟩
   rw [hyes ok];have hk1:=pQ 1;simp [k1,c6];refine ac eok (bD who) (by simp) ?_;simp;refine ⟨by omega,by omega,?_⟩;refine ac eok (oS o hl) (by simp) ?_;simp;omega
  ·simp [k1,c6,hno (λh=>c6 (h.2.2.2.2.2 (by simp only;omega)))]
 ·by_cases c5:o=[]
  ·by_cases k5:kind=5
   ·have ok:fw ⟨kind,who,n,o⟩:=⟨c1,c2,c3,c4,λ_=>c5,λh=>absurd k5 h⟩
    rw [hyes ok];have hk1:=pQ 5;simp [c5,k5];refine ac eok (bD who) (by simp) ?_;simp;refine ⟨by omega,by omega,?_⟩;refine ac eok (bD n) (by simp) ?_;simp;omega
   ·by_cases c6:n=0
    ·have ok:fw ⟨kind,who,n,o⟩:=⟨c1,c2,c3,c4,λ_=>c5,λ_=>c6⟩
     rw [hyes ok];simp [k1,c5,k5,c6];refine ac eok (bD who) (by simp) ?_;simp;refine ⟨by omega,by omega,?_⟩;simp [k1,k5]
    ·simp [k1,c5,k5,c6,hno (λh=>c6 (h.2.2.2.2.2 k5))]
  ·have c5':0<o.length:=List.length_pos_iff.2 c5
   simp [k1,c5',hno (λh=>c5 (h.2.2.2.2.1 k1))]
end Go.Proofs.YthckkpphnmmfdaaGreatDoor
namespace Go.Proofs.YthckkpphnmmfdaaGreatDoor
open Go.AM
set_option maxRecDepth 20000
set_option maxHeartbeats 6400000
attribute [local simp] gQ e8 bL eL eZ dh
def q6 (k:Int):Prop:=k=2\/k=6\/k=7
def lI (k:Int):Prop:=k=2\/k=3\/k=5\/k=6
open Classical in
noncomputable def bj (c:Call):List (List UInt8):=d9 c.kind::((if az c.kind then [c.doc.data.toList] else [])++((if q6 c.kind then [aJ c.client] else [])++((if c.kind=2 then [aJ c.seq] else []) ++
 ((if lI c.kind then [aJ c.n] else [])++((if c.kind=2 then [ge (bo c.o)] else [])++(if c.kind=1 then [dE c.text] else []))))))
def cOk (c:Call):Prop:=bR c/\aX c.o/\qV c.client/\qV c.seq/\qV c.n/\(az c.kind->dF c.doc)
open Classical in
noncomputable def al (c:Call):List UInt8:=if cOk c then Lib.join (bj c) [32] else []
theorem mb {w v:List UInt8} {r:List (List UInt8)} {c:UInt8}:Lib.join (w::v::r) [c]=w++c::Lib.join (v::r) [c]:=by
 rw [Lib.join_cons,Lib.join_cons];simp [Lib.joinTail]
theorem Gr {rd:Value->CD->Prop} {h:AH} {u:Value}:iD rd h [.v u] [.c (.v u)]:=by simp
theorem vx (k:Int):(d9 k).length<=10:=by
 unfold d9
 (repeat' split)<;>decide
theorem aT (c:Call) (hl:fp c<=2 ^ 36):bZ Tryz.prog LT 10 [.agg c.row] (.one (.c (vs (al c)) 1)):=by
 refine bZ.intro' ag LT.stay Tryz.func10 (by kernel_rfl) rfl rfl rfl (Nat.le_of_ble_eq_true rfl) (λw0 base eok=>?_);have hno:¬ cOk c->al c=[]:=λh=>by unfold al;rw [if_neg h]
 have hyes:cOk c->al c=Lib.join (bj c) [32]:=λh=>by unfold al;rw [if_pos h]
 generalize al c=T at hno hyes ⊢;have hl0:=hl;unfold fp at hl;have h1:=cU c.client;have h2:=cU c.seq;have h3:=cU c.n;have h4:=mM c.o;have h5:=p6 c.text;simp [Call.row];intro b;refine aa.pure (wK c hl0) (by simp [Call.row]) ?_;by_cases c1:bR c
 rotate_left
 ·simp [c1,hno (λh=>c1 h.1)]
 simp [c1];refine aa.pure (jd c.o (by omega)) (by simp) ?_;by_cases c2:aX c.o
 rotate_left
 ·simp [c2,hno (λh=>c2 h.2.1)]
 simp [c2];refine aa.pure (aQ c.kind) (by simp) ?_;have hcl:=vx c.kind;have hdoc:=c1.2.1;by_cases d:az c.kind
 ·simp [d]
  refine aa.pure (wJ c.doc (by omega)) (by simp) ?_;by_cases nm:dF c.doc
  rotate_left
  ·simp [nm,hno (λh=>nm (h.2.2.2.2.2 d))]
  simp [nm];refine aa.pure (cQ c.client 0 1000000000) (by simp) ?_;by_cases c4:0<=c.client/\c.client<=1000000000
  rotate_left
  ·simp [c4,hno (λh=>c4 h.2.2.1)]
  simp [c4];refine aa.pure (cQ c.seq 0 1000000000) (by simp) ?_;by_cases c5:0<=c.seq/\c.seq<=1000000000
  rotate_left
  ·simp [c5,hno (λh=>c5 h.2.2.2.1)]
  simp [c5];refine aa.pure (cQ c.n 0 1000000000) (by simp) ?_;by_cases c6:0<=c.n/\c.n<=1000000000
  rotate_left
  ·simp [c6,hno (λh=>c6 h.2.2.2.2.1)]
  simp [c6];have ok:cOk c:=⟨c1,c2,c4,c5,c6,λ_=>nm⟩;rw [hyes ok];refine aa.pure (kP c.kind) (by simp) ?_;simp;refine aa.pure (aQ c.kind) (by simp) ?_;simp [d];obtain ⟨kind,doc,client,seq,n,o,text⟩:=c;simp only at *;obtain ⟨D,rfl⟩:∃ D,doc=bs D:=⟨doc.data.toList,(mT doc).symm⟩;rw [bL] at hdoc;have hc:kind=1\/kind=2\/kind=3\/kind=4\/kind=5:=by unfold az at d;omega
  simp;refine ⟨by omega,by omega,?_⟩;rcases hc with rfl|rfl|rfl|rfl|rfl
  ·simp
   refine ac eok (sE text (by omega)) (by simp) ?_;simp;refine ⟨by omega,by omega,?_⟩;simp [bj,az,q6,lI,mb,Lib.join_one]
  ·obtain ⟨T,hT⟩:∃ T,Lib.join (bj ⟨2,bs D,client,seq,n,o,text⟩) [32]=T:=⟨_,rfl⟩
   rw [hT];simp [bj,az,q6,lI,mb,Lib.join_one] at hT;simp;refine oa (λx:Unit=>[(3,.v (.string (bs T)))]) (λx=>[]) [1] ?_ ?_
   ·refine drw eok mix [0,1,2,6,7,11,12,16,17] [3,4,5,8,9,10,13,14,15,18,19,20,21] (.c 9 3 64 447 (.c 9 4 0 447 (.c 9 5 0 447 (.c 9 8 16 431 (.c 9 9 0 431 (.c 9 10 0 431 (.c 9 13 4 427 (.c 9 14 0 427 (.c 9 15 0 427 (.c 9 18 1 426 (.c 9 19 0 426 (.c 9 20 256 170 (.c 9 21 170 0 (.l 9 0) .s) .s) .s) .s) (.c 9 18 1 426 (.c 9 15 0 426 (.c 9 19 0 426 (.c 9 20 256 170 (.c 9 21 170 0 (.l 9 0) .s) .s) .s) .s) .s)) (.c 9 18 1 426 (.c 9 14 0 426 (.c 9 15 0 426 (.c 9 19 0 426 (.c 9 20 256 170 (.c 9 21 170 0 (.l 9 0) .s) .s) .s) .s) .s) .s)) .s) (.c 9 13 4 427 (.c 9 10 0 427 (.c 9 14 0 427 (.c 9 15 0 427 (.c 9 18 1 426 (.c 9 19 0 426 (.c 9 20 256 170 (.c 9 21 170 0 (.l 9 0) .s) .s) .s) .s) (.c 9 18 1 426 (.c 9 15 0 426 (.c 9 19 0 426 (.c 9 20 256 170 (.c 9 21 170 0 (.l 9 0) .s) .s) .s) .s) .s)) (.c 9 18 1 426 (.c 9 14 0 426 (.c 9 15 0 426 (.c 9 19 0 426 (.c 9 20 256 170 (.c 9 21 170 0 (.l 9 0) .s) .s) .s) .s) .s) .s)) (.c 9 18 1 426 (.c 9 10 0 426 (.c 9 14 0 426 (.c 9 15 0 426 (.c 9 19 0 426 (.c 9 20 256 170 (.c 9 21 170 0 (.l 9 0) .s) .s) .s) .s) .s) .s) .s)) .s)) (.c 9 13 4 427 (.c 9 9 0 427 (.c 9 10 0 427 (.c 9 14 0 427 (.c 9 15 0 427 (.c 9 18 1 426 (.c 9 19 0 426 (.c 9 20 256 170 (.c 9 21 170 0 (.l 9 0) .s) .s) .s) .s) (.c 9 18 1 426 (.c 9 15 0 426 (.c 9 19 0 426 (.c 9 20 256 170 (.c 9 21 170 0 (.l 9 0) .s) .s) .s) .s) .s)) (.c 9 18 1 426 (.c 9 14 0 426 (.c 9 15 0 426 (.c 9 19 0 426 (.c 9 20 256 170 (.c 9 21 170 0 (.l 9 0) .s) .s) .s) .s) .s) .s)) (.c 9 18 1 426 (.c 9 10 0 426 (.c 9 14 0 426 (.c 9 15 0 426 (.c 9 19 0 426 (.c 9 20 256 170 (.c 9 21 170 0 (.l 9 0) .s) .s) .s) .s) .s) .s) .s)) (.c 9 18 1 426 (.c 9 9 0 426 (.c 9 10 0 426 (.c 9 14 0 426 (.c 9 15 0 426 (.c 9 19 0 426 (.c 9 20 256 170 (.c 9 21 170 0 (.l 9 0) .s) .s) .s) .s) .s) .s) .s) .s)) .s)) .s) (.c 9 8 16 431 (.c 9 5 0 431 (.c 9 9 0 431 (.c 9 10 0 431 (.c 9 13 4 427 (.c 9 14 0 427 (.c 9 15 0 427 (.c 9 18 1 426 (.c 9 19 0 426 (.c 9 20 256 170 (.c 9 21 170 0 (.l 9 0) .s) .s) .s) .s) (.c 9 18 1 426 (.c 9 15 0 426 (.c 9 19 0 426 (.c 9 20 256 170 (.c 9 21 170 0 (.l 9 0) .s) .s) .s) .s) .s)) (.c 9 18 1 426 (.c 9 14 0 426 (.c 9 15 0 426 (.c 9 19 0 426 (.c 9 20 256 170 (.c 9 21 170 0 (.l 9 0) .s) .s) .s) .s) .s) .s)) .s) (.c 9 13 4 427 (.c 9 10 0 427 (.c 9 14 0 427 (.c 9 15 0 427 (.c 9 18 1 426 (.c 9 19 0 426 (.c 9 20 256 170 (.c 9 21 170 0 (.l 9 0) .s) .s) .s) .s) (.c 9 18 1 426 (.c 9 15 0 426 (.c 9 19 0 426 (.c 9 20 256 170 (.c 9 21 170 0 (.l 9 0) .s) .s) .s) .s) .s)) (.c 9 18 1 426 (.c 9 14 0 426 (.c 9 15 0 426 (.c 9 19 0 426 (.c 9 20 256 170 (.c 9 21 170 0 (.l 9 0) .s) .s) .s) .s) .s) .s)) (.c 9 18 1 426 (.c 9 10 0 426 (.c 9 14 0 426 (.c 9 15 0 426 (.c 9 19 0 426 (.c 9 20 256 170 (.c 9 21 170 0 (.l 9 0) .s) .s) .s) .s) .s) .s) .s)) .s)) (.c 9 13 4 427 (.c 9 9 0 427 (.c 9 10 0 427 (.c 9 14 0 427 (.c 9 15 0 427 (.c 9 18 1 426 (.c 9 19 0 426 (.c 9 20 256 170 (.c 9 21 170 0 (.l 9 0) .s) .s) .s) .s) (.c 9 18 1 426 (.c 9 15 0 426 (.c 9 19 0 426 (.c 9 20 256 170 (.c 9 21 170 0 (.l 9 0) .s) .s) .s) .s) .s)) (.c 9 18 1 426 (.c 9 14 0 426 (.c 9 15 0 426 (.c 9 19 0 426 (.c 9 20 256 170 (.c 9 21 170 0 (.l 9 0) .s) .s) .s) .s) .s) .s)) (.c 9 18 1 426 (.c 9 10 0 426 (.c 9 14 0 426 (.c 9 15 0 426 (.c 9 19 0 426 (.c 9 20 256 170 (.c 9 21 170 0 (.l 9 0) .s) .s) .s) .s) .s) .s) .s)) (.c 9 18 1 426 (.c 9 9 0 426 (.c 9 10 0 426 (.c 9 14 0 426 (.c 9 15 0 426 (.c 9 19 0 426 (.c 9 20 256 170 (.c 9 21 170 0 (.l 9 0) .s) .s) .s) .s) .s) .s) .s) .s)) .s)) (.c 9 13 4 427 (.c 9 5 0 427 (.c 9 9 0 427 (.c 9 10 0 427 (.c 9 14 0 427 (.c 9 15 0 427 (.c 9 18 1 426 (.c 9 19 0 426 (.c 9 20 256 170 (.c 9 21 170 0 (.l 9 0) .s) .s) .s) .s) (.c 9 18 1 426 (.c 9 15 0 426 (.c 9 19 0 426 (.c 9 20 256 170 (.c 9 21 170 0 (.l 9 0) .s) .s) .s) .s) .s)) (.c 9 18 1 426 (.c 9 14 0 426 (.c 9 15 0 426 (.c 9 19 0 426 (.c 9 20 256 170 (.c 9 21 170 0 (.l 9 0) .s) .s) .s) .s) .s) .s)) (.c 9 18 1 426 (.c 9 10 0 426 (.c 9 14 0 426 (.c 9 15 0 426 (.c 9 19 0 426 (.c 9 20 256 170 (.c 9 21 170 0 (.l 9 0) .s) .s) .s) .s) .s) .s) .s)) (.c 9 18 1 426 (.c 9 9 0 426 (.c 9 10 0 426 (.c 9 14 0 426 (.c 9 15 0 426 (.c 9 19 0 426 (.c 9 20 256 170 (.c 9 21 170 0 (.l 9 0) .s) .s) .s) .s) .s) .s) .s) .s)) (.c 9 18 1 426 (.c 9 5 0 426 (.c 9 9 0 426 (.c 9 10 0 426 (.c 9 14 0 426 (.c 9 15 0 426 (.c 9 19 0 426 (.c 9 20 256 170 (.c 9 21 170 0 (.l 9 0) .s) .s) .s) .s) .s) .s) .s) .s) .s)) .s)) .s)) (.c 9 8 16 431 (.c 9 4 0 431 (.c 9 5 0 431 (.c 9 9 0 431 (.c 9 10 0 431 (.c 9 13 4 427 (.c 9 14 0 427 (.c 9 15 0 427 (.c 9 18 1 426 (.c 9 19 0 426 (.c 9 20 256 170 (.c 9 21 170 0 (.l 9 0) .s) .s) .s) .s) (.c 9 18 1 426 (.c 9 15 0 426 (.c 9 19 0 426 (.c 9 20 256 170 (.c 9 21 170 0 (.l 9 0) .s) .s) .s) .s) .s)) (.c 9 18 1 426 (.c 9 14 0 426 (.c 9 15 0 426 (.c 9 19 0 426 (.c 9 20 256 170 (.c 9 21 170 0 (.l 9 0) .s) .s) .s) .s) .s) .s)) .s) (.c 9 13 4 427 (.c 9 10 0 427 (.c 9 14 0 427 (.c 9 15 0 427 (.c 9 18 1 426 (.c 9 19 0 426 (.c 9 20 256 170 (.c 9 21 170 0 (.l 9 0) .s) .s) .s) .s) (.c 9 18 1 426 (.c 9 15 0 426 (.c 9 19 0 426 (.c 9 20 256 170 (.c 9 21 170 0 (.l 9 0) .s) .s) .s) .s) .s)) (.c 9 18 1 426 (.c 9 14 0 426 (.c 9 15 0 426 (.c 9 19 0 426 (.c 9 20 256 170 (.c 9 21 170 0 (.l 9 0) .s) .s) .s) .s) .s) .s)) (.c 9 18 1 426 (.c 9 10 0 426 (.c 9 14 0 426 (.c 9 15 0 426 (.c 9 19 0 426 (.c 9 20 256 170 (.c 9 21 170 0 (.l 9 0) .s) .s) .s) .s) .s) .s) .s)) .s)) (.c 9 13 4 427 (.c 9 9 0 427 (.c 9 10 0 427 (.c 9 14 0 427 (.c 9 15 0 427 (.c 9 18 1 426 (.c 9 19 0 426 (.c 9 20 256 170 (.c 9 21 170 0 (.l 9 0) .s) .s) .s) .s) (.c 9 18 1 426 (.c 9 15 0 426 (.c 9 19 0 426 (.c 9 20 256 170 (.c 9 21 170 0 (.l 9 0) .s) .s) .s) .s) .s)) (.c 9 18 1 426 (.c 9 14 0 426 (.c 9 15 0 426 (.c 9 19 0 426 (.c 9 20 256 170 (.c 9 21 170 0 (.l 9 0) .s) .s) .s) .s) .s) .s)) (.c 9 18 1 426 (.c 9 10 0 426 (.c 9 14 0 426 (.c 9 15 0 426 (.c 9 19 0 426 (.c 9 20 256 170 (.c 9 21 170 0 (.l 9 0) .s) .s) .s) .s) .s) .s) .s)) (.c 9 18 1 426 (.c 9 9 0 426 (.c 9 10 0 426 (.c 9 14 0 426 (.c 9 15 0 426 (.c 9 19 0 426 (.c 9 20 256 170 (.c 9 21 170 0 (.l 9 0) .s) .s) .s) .s) .s) .s) .s) .s)) .s)) (.c 9 13 4 427 (.c 9 5 0 427 (.c 9 9 0 427 (.c 9 10 0 427 (.c 9 14 0 427 (.c 9 15 0 427 (.c 9 18 1 426 (.c 9 19 0 426 (.c 9 20 256 170 (.c 9 21 170 0 (.l 9 0) .s) .s) .s) .s) (.c 9 18 1 426 (.c 9 15 0 426 (.c 9 19 0 426 (.c 9 20 256 170 (.c 9 21 170 0 (.l 9 0) .s) .s) .s) .s) .s)) (.c 9 18 1 426 (.c 9 14 0 426 (.c 9 15 0 426 (.c 9 19 0 426 (.c 9 20 256 170 (.c 9 21 170 0 (.l 9 0) .s) .s) .s) .s) .s) .s)) (.c 9 18 1 426 (.c 9 10 0 426 (.c 9 14 0 426 (.c 9 15 0 426 (.c 9 19 0 426 (.c 9 20 256 170 (.c 9 21 170 0 (.l 9 0) .s) .s) .s) .s) .s) .s) .s)) (.c 9 18 1 426 (.c 9 9 0 426 (.c 9 10 0 426 (.c 9 14 0 426 (.c 9 15 0 426 (.c 9 19 0 426 (.c 9 20 256 170 (.c 9 21 170 0 (.l 9 0) .s) .s) .s) .s) .s) .s) .s) .s)) (.c 9 18 1 426 (.c 9 5 0 426 (.c 9 9 0 426 (.c 9 10 0 426 (.c 9 14 0 426 (.c 9 15 0 426 (.c 9 19 0 426 (.c 9 20 256 170 (.c 9 21 170 0 (.l 9 0) .s) .s) .s) .s) .s) .s) .s) .s) .s)) .s)) (.c 9 13 4 427 (.c 9 4 0 427 (.c 9 5 0 427 (.c 9 9 0 427 (.c 9 10 0 427 (.c 9 14 0 427 (.c 9 15 0 427 (.c 9 18 1 426 (.c 9 19 0 426 (.c 9 20 256 170 (.c 9 21 170 0 (.l 9 0) .s) .s) .s) .s) (.c 9 18 1 426 (.c 9 15 0 426 (.c 9 19 0 426 (.c 9 20 256 170 (.c 9 21 170 0 (.l 9 0) .s) .s) .s) .s) .s)) (.c 9 18 1 426 (.c 9 14 0 426 (.c 9 15 0 426 (.c 9 19 0 426 (.c 9 20 256 170 (.c 9 21 170 0 (.l 9 0) .s) .s) .s) .s) .s) .s)) (.c 9 18 1 426 (.c 9 10 0 426 (.c 9 14 0 426 (.c 9 15 0 426 (.c 9 19 0 426 (.c 9 20 256 170 (.c 9 21 170 0 (.l 9 0) .s) .s) .s) .s) .s) .s) .s)) (.c 9 18 1 426 (.c 9 9 0 426 (.c 9 10 0 426 (.c 9 14 0 426 (.c 9 15 0 426 (.c 9 19 0 426 (.c 9 20 256 170 (.c 9 21 170 0 (.l 9 0) .s) .s) .s) .s) .s) .s) .s) .s)) (.c 9 18 1 426 (.c 9 5 0 426 (.c 9 9 0 426 (.c 9 10 0 426 (.c 9 14 0 426 (.c 9 15 0 426 (.c 9 19 0 426 (.c 9 20 256 170 (.c 9 21 170 0 (.l 9 0) .s) .s) .s) .s) .s) .s) .s) .s) .s)) (.c 9 18 1 426 (.c 9 4 0 426 (.c 9 5 0 426 (.c 9 9 0 426 (.c 9 10 0 426 (.c 9 14 0 426 (.c 9 15 0 426 (.c 9 19 0 426 (.c 9 20 256 170 (.c 9 21 170 0 (.l 9 0) .s) .s) .s) .s) .s) .s) .s) .s) .s) .s)) .s)) .s)) .s) ?_
    simp
    try intros
    repeat' first
     |(refine ⟨by omega,?_⟩)
     |(refine ac eok (bD _) Gr ?_;simp;try intros)
     |(refine ac eok (bD _) Gr ?_;simp;try intros)
     |(refine ac eok (bD _) Gr ?_;simp;try intros)
     |(refine ac eok (oS o (by omega)) (by simp) ?_;simp;try intros)
     |(rw [Trc];refine ⟨?_,?_⟩<;>(try simp)<;>try intros)
    all_goals
     simpa using hT
   rintro ⟨⟩
   simp
  ·simp
   refine ac eok (bD n) (by simp) ?_;simp;refine ⟨by omega,by omega,?_⟩;simp [bj,az,q6,lI,mb,Lib.join_one]
  ·simp [bj,az,q6,lI,mb,Lib.join_one]
  ·simp
   refine ac eok (bD n) (by simp) ?_;simp;refine ⟨by omega,by omega,?_⟩;simp [bj,az,q6,lI,mb,Lib.join_one]
 ·simp [d]
  refine aa.pure (cQ c.client 0 1000000000) (by simp) ?_;by_cases c4:0<=c.client/\c.client<=1000000000
  rotate_left
  ·simp [c4,hno (λh=>c4 h.2.2.1)]
  simp [c4];refine aa.pure (cQ c.seq 0 1000000000) (by simp) ?_;by_cases c5:0<=c.seq/\c.seq<=1000000000
  rotate_left
  ·simp [c5,hno (λh=>c5 h.2.2.2.1)]
  simp [c5];refine aa.pure (cQ c.n 0 1000000000) (by simp) ?_;by_cases c6:0<=c.n/\c.n<=1000000000
  rotate_left
  ·simp [c6,hno (λh=>c6 h.2.2.2.2.1)]
  simp [c6];have ok:cOk c:=⟨c1,c2,c4,c5,c6,λh=>absurd h d⟩;rw [hyes ok];refine aa.pure (kP c.kind) (by simp) ?_;simp;refine aa.pure (aQ c.kind) (by simp) ?_;simp [d];obtain ⟨kind,doc,client,seq,n,o,text⟩:=c;simp only at *;have hc:kind=6\/kind=7\/kind=8:=by have:=c1.1;unfold az at d;simp only at this;omega
  rcases hc with rfl|rfl|rfl
  ·obtain ⟨T,hT⟩:∃ T,Lib.join (bj ⟨6,doc,client,seq,n,o,text⟩) [32]=T:=⟨_,rfl⟩
   rw [hT];simp [bj,az,q6,lI,mb,Lib.join_one] at hT;simp;refine oa (λx:Unit=>[(3,.v (.string (bs T)))]) (λx=>[]) [1] ?_ ?_
   ·refine drw eok mix [0,1,2,6,7] [3,4,5,8,9,10,11] (.c 5 3 4 27 (.c 5 4 0 27 (.c 5 5 0 27 (.c 5 8 1 26 (.c 5 9 0 26 (.c 5 10 16 10 (.c 5 11 10 0 (.l 5 0) .s) .s) .s) .s) (.c 5 8 1 26 (.c 5 5 0 26 (.c 5 9 0 26 (.c 5 10 16 10 (.c 5 11 10 0 (.l 5 0) .s) .s) .s) .s) .s)) (.c 5 8 1 26 (.c 5 4 0 26 (.c 5 5 0 26 (.c 5 9 0 26 (.c 5 10 16 10 (.c 5 11 10 0 (.l 5 0) .s) .s) .s) .s) .s) .s)) .s) ?_
    simp
    try intros
    repeat' first
     |(refine ⟨by omega,?_⟩)
     |(refine ac eok (bD _) Gr ?_;simp;try intros)
     |(refine ac eok (bD _) Gr ?_;simp;try intros)
     |(rw [Trc];refine ⟨?_,?_⟩<;>(try simp)<;>try intros)
    all_goals
     simpa using hT
   rintro ⟨⟩
   simp
  ·simp
   refine ac eok (bD client) (by simp) ?_;simp;refine ⟨by omega,by omega,?_⟩;simp [bj,az,q6,lI,mb,Lib.join_one]
  ·simp [bj,az,q6,lI,Lib.join_one]
end Go.Proofs.YthckkpphnmmfdaaGreatDoor
namespace Go.Proofs.YthckkpphnmmfdaaGreatDoor
open Go.AM
set_option maxRecDepth 20000
set_option maxHeartbeats 6400000
attribute [local simp] gQ e8 bL eL eZ dh
end Go.Proofs.YthckkpphnmmfdaaGreatDoor
namespace Go.Proofs.YthckkpphnmmfdaaGreatDoor
open Go.AM
set_option maxRecDepth 20000
set_option maxHeartbeats 6400000
attribute [local simp] gQ e8 bL eL eZ dh
end Go.Proofs.YthckkpphnmmfdaaGreatDoor
namespace Go.Proofs.YthckkpphnmmfdaaGreatDoor
open Go.AM
set_option maxRecDepth 20000
set_option maxHeartbeats 6400000
attribute [local simp] gQ e8 bL eL eZ dh
end Go.Proofs.YthckkpphnmmfdaaGreatDoor
namespace Go.Proofs.YthckkpphnmmfdaaGreatDoor
open Go.AM Go.RowKit
set_option maxRecDepth 100000
set_option maxHeartbeats 4000000
def BQ (x:UInt8):UInt8:=if x=44 then 32 else if x=32 then 44 else x
open Go.AM
set_option maxRecDepth 20000
def Event.none:Event:=⟨0,0,0,[]⟩
def cY (w:List UInt8):Int:=if w=dq 1 then 1 else if w=dq 2 then 2 else if w=dq 3 then 3 else if w=dq 4 then 4 else if w=dq 5 then 5 else if w=dq 6 then 6 else 0
theorem mr {k:Int} (h:1<=k/\k<=6):cY (dq k)=k:=by
 have hc:k=1\/k=2\/k=3\/k=4\/k=5\/k=6:=by omega
 rcases hc with rfl|rfl|rfl|rfl|rfl|rfl<;>decide
noncomputable def eK (e:Event):List (List UInt8):=dq e.kind::aJ e.who::(if e.kind=1 then [ge (bo e.o)] else if e.kind=5 then [aJ e.n] else [])
theorem jg {e:Event} (h:fw e):aP e=Lib.join (eK e) [32]:=by
 unfold aP eK;rw [if_pos h];by_cases k1:e.kind=1
 ·simp [k1,mb,Lib.join_one]
 ·by_cases k5:e.kind=5<;>simp [k1,k5,mb,Lib.join_one]
theorem uW (o:List Part):(32:UInt8) ∉ ge (bo o):=by
 unfold ge;intro h;obtain ⟨x,-,hx⟩:=List.mem_map.1 h
 split at hx
 ·exact absurd hx (by decide)
 ·rename_i hn;exact hn hx
theorem DM (k:Int):(32:UInt8) ∉ dq k:=by
 unfold dq
 (repeat' split)<;>decide
theorem jU (e:Event):aK 32 (Lib.join (eK e) [32])=eK e:=by
 refine iq 32 _ (by simp [eK]) (λw hw=>?_);unfold eK at hw;rcases List.mem_cons.1 hw with rfl|hw
 ·exact DM _
 rcases List.mem_cons.1 hw with rfl|hw
 ·exact L1 _
 split at hw
 ·rw [List.mem_singleton.1 hw];exact uW _
 ·split at hw
  ·rw [List.mem_singleton.1 hw];exact L1 _
  ·exact absurd hw List.not_mem_nil
theorem qe (o:List Part):(44:UInt8) ∉ bo o:=by
 unfold bo
 split
 ·split
  ·decide
  ·refine sC (by decide) (λw hw=>?_)
   obtain ⟨p,-,rfl⟩:=List.mem_map.1 hw;exact LQ p
 ·exact List.not_mem_nil
theorem uu (o:List Part):(ge (bo o)).map BQ=bo o:=by
 have h:=qe o;generalize bo o=l at h;unfold ge;rw [List.map_map]
 conv=>rhs;rw [<- List.map_id l]
 refine List.map_congr_left λx hx=>?_
 have hx44:x≠44:=λe=>h (by rw [<- e];exact hx)
 by_cases h32:x=32
 ·subst h32;rfl
 ·simp [h32,BQ,hx44]
theorem rD (o:List Part):d5 (ge (bo o))=bo o:=by
 have h:=qe o;generalize bo o=l at h;unfold ge d5;rw [List.map_map]
 conv=>rhs;rw [<- List.map_id l]
 refine List.map_congr_left λx hx=>?_
 have hx44:x≠44:=λe=>h (by rw [<- e];exact hx)
 by_cases h32:x=32
 ·subst h32;rfl
 ·simp [h32,hx44]
noncomputable def evS (W:List (List UInt8)):Event:=⟨cY (W.getD 0 []),(bv (W.getD 1 [])).1,if cY (W.getD 0 [])=5 then (bv (W.getD 2 [])).1 else 0,if cY (W.getD 0 [])=1 then (cK ((W.getD 2 []).map BQ)).1 else []⟩
noncomputable def aw (W:List (List UInt8)) (k:Nat):Int:=if k<W.length/\(bv (W.getD k [])).2=true then (bv (W.getD k [])).1 else -1
noncomputable def evI (W:List (List UInt8)):Event:=⟨cY (W.getD 0 []),aw W 1,if cY (W.getD 0 [])=5 then aw W 2 else 0,if cY (W.getD 0 [])=1/\W.length=3 then (cK (d5 (W.getD 2 []))).1 else []⟩
theorem vn {e:Event} (h:fw e) (hn:aZ e.o):evS (eK e)=e:=by
 obtain ⟨k,who,n,o⟩:=e;obtain ⟨h1,h2,h3,h4,h5,h6⟩:=h;unfold qV at h2 h3;simp only at h1 h2 h3 h4 h5 h6 hn;have e0:=mr h1;by_cases k1:k=1
 ·have hz:n=0:=h6 (by omega)
  subst k1;subst hz;simp [evS,eK,e0,bK h2,uu,iP hn]
 ·have ho:=h5 k1
  subst ho;by_cases k5:k=5
  ·subst k5
   simp [evS,eK,e0,bK h2,bK h3]
  ·have hz:n=0:=h6 k5
   subst hz;simp [evS,eK,e0,bK h2,k1,k5]
theorem DO {e:Event} (h:fw e) (hn:aZ e.o):evI (eK e)=e:=by
 obtain ⟨k,who,n,o⟩:=e;obtain ⟨h1,h2,h3,h4,h5,h6⟩:=h;unfold qV at h2 h3;simp only at h1 h2 h3 h4 h5 h6 hn;have e0:=mr h1;by_cases k1:k=1
 ·have hz:n=0:=h6 (by omega)
  subst k1;subst hz;simp [evI,aw,eK,e0,bK h2,rD,iP hn]
 ·have ho:=h5 k1
  subst ho;by_cases k5:k=5
  ·subst k5
   simp [evI,aw,eK,e0,bK h2,bK h3]
  ·have hz:n=0:=h6 k5
   subst hz;simp [evI,aw,eK,e0,bK h2,k1,k5]
open Classical in
noncomputable def fF (s:List UInt8):Event×Bool:=if h:∃ e,(fw e/\aZ e.o)/\aP e=s then (h.choose,true) else (Event.none,false)
theorem ub {a b:Event} (ha:fw a/\aZ a.o) (hb:fw b/\aZ b.o) (h:aP a=aP b):a=b:=by
 rw [<- vn ha.1 ha.2,<- vn hb.1 hb.2,<- jU a,<- jU b,<- jg ha.1,<- jg hb.1,h]
theorem od {e:Event} (h:fw e/\aZ e.o):fF (aP e)=(e,true):=by
 unfold fF;have hx:∃ e',(fw e'/\aZ e'.o)/\aP e'=aP e:=⟨e,h,rfl⟩;rw [dif_pos hx,ub hx.choose_spec.1 h hx.choose_spec.2]
theorem vV {s:List UInt8} (h:∀ e,fw e/\aZ e.o->aP e≠s):fF s=(Event.none,false):=by
 unfold fF;rw [dif_neg]
 rintro ⟨e,h1,h2⟩
 exact h e h1 h2
theorem qP {s:List UInt8} {f:List (List UInt8)->Event} (hf:∀ e,fw e->aZ e.o->f (eK e)=e) (hn:aZ (f (aK 32 s)).o) :
 (aP (f (aK 32 s))≠[]/\aP (f (aK 32 s))=s->fF s=(f (aK 32 s),true))/\(¬ (aP (f (aK 32 s))≠[]/\aP (f (aK 32 s))=s)->fF s=(Event.none,false)):=by
 constructor
 ·rintro ⟨h1,h2⟩
  have hok:fw (f (aK 32 s)):=by
   by_cases h:fw (f (aK 32 s))
   ·exact h
   ·exact absurd (by unfold aP;rw [if_neg h]) h1
  have:=od ⟨hok,hn⟩
  rwa [h2] at this
 ·intro h
  refine vV λe he h2=>h ?_
  have e1:f (aK 32 s)=e:=by rw [<- h2,jg he.1,jU,hf e he.1 he.2]
  rw [e1];refine ⟨λh0=>?_,h2⟩;unfold aP at h0;rw [if_pos he.1] at h0;simp at h0
set_option maxHeartbeats 6400000
attribute [local simp] gQ e8 bL eL eZ dh
theorem br (W:List (List UInt8)) (k:Nat) (_hk:k<=100) (_hl:W.length<=2 ^ 31) (hw:∀ w∈W,w.length<=2 ^ 31):bZ Tryz.prog LT 60 [.c (.s (W.map wR)),.c (vi (k:Int))] (.one (.c (vi (aw W k)) 1)):=by
 refine bZ.intro' ag LT.stay Tryz.func60 (by kernel_rfl) rfl rfl rfl (Nat.le_of_ble_eq_true rfl) (λw0 base eok=>?_);by_cases h:k<W.length
 rotate_left
 ·have h':(W.length:Int)<=k:=by omega
  have e:aw W k = -1:=by unfold aw;rw [if_neg (λq=>h q.1)]
  simp [h',e]
 have h':¬ (W.length:Int)<=k:=by omega
 have hg:W.getD k []=W[k]:=by simp [List.getD,h]
 have hx:=hw W[k] (List.getElem_mem h);simp [h',h,wR];refine ac eok (np W[k] (by omega)) (by simp) ?_;by_cases hok:(bv W[k]).2=true
 ·have e:aw W k=(bv W[k]).1:=by unfold aw;rw [hg,if_pos ⟨h,hok⟩]
  simp [hok,e]
 ·have e:aw W k = -1:=by unfold aw;rw [hg,if_neg (λq=>hok q.2)]
  have hok':(bv W[k]).2=false:=by simpa using hok
  simp [hok',e]
theorem kO (s:List UInt8) (hl:s.length<=2 ^ 30):bZ Tryz.prog LT 61 [.c (vs s)] (.tup [.c (.s ((cK (d5 s)).1.map Part.row)) 3,.c (.v (.bool (cK (d5 s)).2)) 1]):=by
 refine bZ.intro' ag LT.stay Tryz.func61 (by kernel_rfl) rfl rfl rfl (Nat.le_of_ble_eq_true rfl) (λw0 base eok=>?_);simp;refine ac eok (uP s 44 32 (by decide) (by omega)) (by simp) ?_;simp;refine ac eok (wB (d5 s) (by simpa [d5] using hl)) (by simp [d5]) ?_;simp
end Go.Proofs.YthckkpphnmmfdaaGreatDoor
namespace Go.Proofs.YthckkpphnmmfdaaGreatDoor
open Go.AM
set_option maxRecDepth 20000
set_option maxHeartbeats 6400000
attribute [local simp] gQ e8 bL eL eZ dh
theorem DN {w:List UInt8} {k:Int} (hk:1<=k/\k<=6):dq k=w ↔ cY w=k:=by
 constructor
 ·rintro rfl;exact mr hk
 ·intro h
  unfold cY at h
  (repeat' split at h)<;>first|(subst h;exact (by assumption:w=_).symm)|omega
theorem zp (w:List UInt8):0<=cY w/\cY w<=6:=by
 unfold cY
 (repeat' split)<;>omega
def zo (w:List UInt8) (i:Nat):Int:=if cY w<i then cY w else 0
theorem DK {w:List UInt8} {i:Nat}:zo w (i+1)=if cY w=i then (i:Int) else zo w i:=by
 unfold zo;by_cases h:cY w=i
 ·rw [if_pos (by omega),if_pos h,h]
 ·rw [if_neg h]
  by_cases h2:cY w<i
  ·rw [if_pos h2,if_pos (by omega)]
  ·rw [if_neg h2,if_neg (by omega)]
theorem GT (w:List UInt8):zo w 1=0:=by
 unfold zo;have:=zp w
 split
 ·omega
 ·rfl
theorem GU (w:List UInt8):zo w 7=cY w:=by
 unfold zo;have:=zp w;rw [if_pos (by omega)]
theorem qX (s:List UInt8) (hl:s.length<=2 ^ 30):bZ Tryz.prog LT 13 [.c (vs s)] (.tup [.agg (fF s).1.res,.c (.v (.bool (fF s).2)) 1]):=by
 refine bZ.intro' ag LT.stay Tryz.func13 (by kernel_rfl) rfl rfl rfl (Nat.le_of_ble_eq_true rfl) (λw0 base eok=>?_);simp;intro b2;refine ac eok (pI s (by omega)) (by simp) ?_;simp;intro H b5
 obtain ⟨y1,y2⟩:=qP (s:=s) (f:=evI) (λe h hn=>DO h hn) (by
  simp only [evI]
  split
  ·exact lN _
  ·exact fu)
 have hlen:=(dD 32 s).1;have hw:=(dD 32 s).2;have hne:=mI 32 s;generalize aK 32 s=W at hlen hw hne y1 y2 ⊢;have hpos:0<W.length:=List.length_pos_iff.2 hne;obtain ⟨w,hw0⟩:∃ w,W[0]=w:=⟨_,rfl⟩;have hg0:W.getD 0 []=w:=by simp [List.getD,hpos,hw0]
 refine bg.ent (pl 4 144 (by simp;exact ⟨rfl,rfl,rfl,rfl⟩) (by simp;exact ⟨rfl,rfl⟩) (by simp) (Ent.refl ?_));simp
 refine ar eok (λi:Nat=>1<=i/\i<=7) (λi=>⟨56,0,[(6,.v (.int .i64 i)),(5,.p 80 b5 0),(4,.ro (W.map wR)),(3,.v (.bool false)),(2,.p 32 b2 0),(0,.v (.string (bs s)))],
  [(80,.vars b5 35 [.v (.int .i64 (zo w i)),.v (.int .i64 0),.v (.int .i64 0),.nil]),(32,.vars b2 35 [.v (.int .i64 0),.v (.int .i64 0),.v (.int .i64 0),.nil])]⟩) (λi=>7 - i) 1 (by omega) (by simp [GT]) (λi hi=>Ent.refl ?_)
 by_cases hlt:(i:Int)<=6
 ·have hnx:=DK (w:=w) (i:=i)
  have hat:=DN (w:=w) (k:=i) (by omega);simp [hlt];refine bq.quiet eok mix (by kernel_rfl) ?_;simp [hpos,hw0,wR];refine ⟨_,_,(lB i).up,by simp,?_⟩;by_cases hk:cY w=i
  ·have hq:=hat.2 hk
   rw [if_pos hk] at hnx;simp [hq];refine Ent.refl ⟨i+1,by omega,by omega,?_⟩;simp [hnx];exact aB (by omega)
  ·have hq:¬ dq i=w:=λh=>hk (hat.1 h)
   rw [if_neg hk] at hnx;simp [hq];refine Ent.refl ⟨i+1,by omega,by omega,?_⟩;simp [hnx];exact aB (by omega)
 ·have e:i=7:=by omega
  subst e;rw [GU];have hWl:W.length<=2 ^ 31:=by omega
  have hWw:∀ w∈W,w.length<=2 ^ 31:=λw h=>by have:=hw w h;omega
  have hnI:aZ (evI W).o:=by
   simp only [evI]
   split
   ·exact lN _
   ·exact fu
  have hnE:gY (evI W)<=2 ^ 40:=by
   have:=j4 hnI.1.1.1;have:=hnI.1.1.2;unfold gY;omega
  simp;refine ac eok (br W 1 (by omega) hWl hWw) (by simp) ?_;simp;by_cases k1:cY w=1
  ·by_cases l3:W.length=3
   ·have l3':(W.length:Int)=3:=by omega
    have h2:2<W.length:=by omega
    obtain ⟨x,hx⟩:∃ x,W[2]=x:=⟨_,rfl⟩;have hxl:=hw W[2] (List.getElem_mem h2);rw [hx] at hxl;have hg2:W.getD 2 []=x:=by simp [List.getD,h2,hx]
    simp [k1,l3',h2,hx,wR];refine ac eok (kO x (by omega)) (by simp) ?_;simp;intro H3;have hE:evI W=⟨1,aw W 1,0,(cK (d5 x)).1⟩:=by simp only [evI,hg0];simp [k1,l3,hx]
    rw [hE] at y1 y2 hnE;refine ac eok (dm ⟨1,aw W 1,0,(cK (d5 x)).1⟩ hnE) (by simp [Event.row]) ?_;by_cases q1:aP ⟨1,aw W 1,0,(cK (d5 x)).1⟩=[]
    ·simp [q1,y2 (λh=>h.1 q1),Event.none,Event.res]
    ·by_cases q2:aP ⟨1,aw W 1,0,(cK (d5 x)).1⟩=s
     ·have q1':s≠[]:=λh=>q1 (by rw [q2,h])
      simp [q2,q1',y1 ⟨q1,q2⟩,Event.res]
     ·simp [q1,q2,y2 (λh=>q2 h.2),Event.none,Event.res]
   ·have l3':¬ (W.length:Int)=3:=by omega
    simp [k1,l3'];have hE:evI W=⟨1,aw W 1,0,[]⟩:=by simp only [evI,hg0];simp [k1,l3]
    rw [hE] at y1 y2 hnE;refine ac eok (dm ⟨1,aw W 1,0,[]⟩ hnE) (by simp [Event.row]) ?_;by_cases q1:aP ⟨1,aw W 1,0,[]⟩=[]
    ·simp [q1,y2 (λh=>h.1 q1),Event.none,Event.res]
    ·by_cases q2:aP ⟨1,aw W 1,0,[]⟩=s
     ·have q1':s≠[]:=λh=>q1 (by rw [q2,h])
      simp [q2,q1',y1 ⟨q1,q2⟩,Event.res]
     ·simp [q1,q2,y2 (λh=>q2 h.2),Event.none,Event.res]
  ·by_cases k5:cY w=5
   ·have k1':¬ cY w=1:=k1
    simp [k5];refine ac eok (br W 2 (by omega) hWl hWw) (by simp) ?_;simp;have hE:evI W=⟨5,aw W 1,aw W 2,[]⟩:=by simp only [evI,hg0];simp [k5]
    rw [hE] at y1 y2 hnE;refine ac eok (dm ⟨5,aw W 1,aw W 2,[]⟩ hnE) (by simp [Event.row]) ?_;by_cases q1:aP ⟨5,aw W 1,aw W 2,[]⟩=[]
    ·simp [q1,y2 (λh=>h.1 q1),Event.none,Event.res]
    ·by_cases q2:aP ⟨5,aw W 1,aw W 2,[]⟩=s
     ·have q1':s≠[]:=λh=>q1 (by rw [q2,h])
      simp [q2,q1',y1 ⟨q1,q2⟩,Event.res]
     ·simp [q1,q2,y2 (λh=>q2 h.2),Event.none,Event.res]
   ·simp [k1,k5]
    have hE:evI W=⟨cY w,aw W 1,0,[]⟩:=by simp only [evI,hg0];simp [k1,k5]
    rw [hE] at y1 y2 hnE;refine ac eok (dm ⟨cY w,aw W 1,0,[]⟩ hnE) (by simp [Event.row]) ?_;by_cases q1:aP ⟨cY w,aw W 1,0,[]⟩=[]
    ·simp [q1,y2 (λh=>h.1 q1),Event.none,Event.res]
    ·by_cases q2:aP ⟨cY w,aw W 1,0,[]⟩=s
     ·have q1':s≠[]:=λh=>q1 (by rw [q2,h])
      simp [q2,q1',y1 ⟨q1,q2⟩,Event.res]
     ·simp [q1,q2,y2 (λh=>q2 h.2),Event.none,Event.res]
end Go.Proofs.YthckkpphnmmfdaaGreatDoor
namespace Go.Proofs.YthckkpphnmmfdaaGreatDoor
open Go.AM
set_option maxRecDepth 20000
set_option maxHeartbeats 6400000
attribute [local simp] gQ e8 bL eL eZ dh
end Go.Proofs.YthckkpphnmmfdaaGreatDoor
namespace Go.Proofs.YthckkpphnmmfdaaGreatDoor
open Go.AM
set_option maxRecDepth 20000
set_option maxHeartbeats 6400000
attribute [local simp] gQ e8 bL eL eZ dh
end Go.Proofs.YthckkpphnmmfdaaGreatDoor
namespace Go.Proofs.YthckkpphnmmfdaaGreatDoor
open Go.AM
set_option maxRecDepth 20000
def bp (w:List UInt8):Int:=if w=d9 1 then 1 else if w=d9 2 then 2 else if w=d9 3 then 3 else if w=d9 4 then 4 else if w=d9 5 then 5 else if w=d9 6 then 6 else if w=d9 7 then 7 else if w=d9 8 then 8 else 0
theorem jC {k:Int} (h:1<=k/\k<=8):bp (d9 k)=k:=by
 have hc:k=1\/k=2\/k=3\/k=4\/k=5\/k=6\/k=7\/k=8:=by omega
 rcases hc with rfl|rfl|rfl|rfl|rfl|rfl|rfl|rfl<;>decide
theorem D2 (k:Int):(32:UInt8) ∉ d9 k:=by
 unfold d9
 (repeat' split)<;>decide
theorem xX (l:List Int):(32:UInt8) ∉ dE l:=by
 unfold dE
 split
 ·split
  ·decide
  ·exact xY (by unfold jc;decide) (by decide) l
 ·exact List.not_mem_nil
theorem C9 {s:ByteArray} (h:dF s):(32:UInt8) ∉ s.data.toList:=λhm=>by
 obtain ⟨i,hi,he⟩:=List.getElem_of_mem hm;have hs:i<s.size:=by have:=bL s.data.toList;rw [mT] at this;omega
 have h2:=h.2 i hs;have h3:s[i]=s.data.toList[i]:=by simp [ByteArray.getElem_eq_getElem_data]
 rw [h3,he] at h2;exact absurd h2.1 (by decide)
theorem f0 {c:Call} (h:cOk c):aK 32 (Lib.join (bj c) [32])=bj c:=by
 refine iq 32 _ (by simp [bj]) (λw hw=>?_);unfold bj at hw;simp only [List.mem_cons,List.mem_append] at hw;rcases hw with rfl|hw|hw|hw|hw|hw|hw
 ·exact D2 _
 ·split at hw
  ·rename_i hd
   rw [List.mem_singleton.1 hw];exact C9 (h.2.2.2.2.2 hd)
  ·exact absurd hw List.not_mem_nil
 all_goals
  split at hw
  ·rw [List.mem_singleton.1 hw]
   first|exact L1 _|exact uW _|exact xX _
  ·exact absurd hw List.not_mem_nil
open Classical in
noncomputable def clS (W:List (List UInt8)):Call:=⟨bp (W.getD 0 []),if az (bp (W.getD 0 [])) then bs (W.getD 1 []) else bs [],
 if bp (W.getD 0 [])=2 then (bv (W.getD 2 [])).1 else if bp (W.getD 0 [])=6\/bp (W.getD 0 [])=7 then (bv (W.getD 1 [])).1 else 0,
 if bp (W.getD 0 [])=2 then (bv (W.getD 3 [])).1 else 0,
 if bp (W.getD 0 [])=2 then (bv (W.getD 4 [])).1 else if bp (W.getD 0 [])=3\/bp (W.getD 0 [])=5\/bp (W.getD 0 [])=6 then (bv (W.getD 2 [])).1 else 0,
 if bp (W.getD 0 [])=2 then (cK ((W.getD 5 []).map BQ)).1 else [],if bp (W.getD 0 [])=1 then (cu (W.getD 2 [])).1 else []⟩
theorem vw {c:Call} (h:cOk c) (hn:aZ c.o):clS (bj c)=c:=by
 obtain ⟨h1,h2,h3,h4,h5,h6⟩:=h;have e0:=jC h1.1;obtain ⟨k,doc,client,seq,n,o,text⟩:=c;obtain ⟨hk,hd,hp,ht,a1,a2,a3,a4,a5⟩:=h1;unfold qV at h3 h4 h5;simp only at hk hd hp ht a1 a2 a3 a4 a5 h2 h3 h4 h5 h6 hn e0;have hc:k=1\/k=2\/k=3\/k=4\/k=5\/k=6\/k=7\/k=8:=by omega
 have z:bs []=⟨#[]⟩:=rfl;rcases hc with rfl|rfl|rfl|rfl|rfl|rfl|rfl|rfl
 all_goals
  simp [az] at a1 a2 a3 a4 a5;simp [clS,bj,e0,az,q6,lI,mT,bK h3,bK h4,bK h5,uu,iP hn,m9 ht.2,a1,a2,a3,a4,a5,z]
open Classical in
noncomputable def clI (W:List (List UInt8)):Call:=⟨bp (W.getD 0 []),if az (bp (W.getD 0 []))/\1<W.length then bs (W.getD 1 []) else bs [],
 if bp (W.getD 0 [])=2 then aw W 2 else if bp (W.getD 0 [])=6\/bp (W.getD 0 [])=7 then aw W 1 else 0,
 if bp (W.getD 0 [])=2 then aw W 3 else 0,
 if bp (W.getD 0 [])=2 then aw W 4 else if bp (W.getD 0 [])=3\/bp (W.getD 0 [])=5\/bp (W.getD 0 [])=6 then aw W 2 else 0,
 if bp (W.getD 0 [])=2/\W.length=6 then (cK (d5 (W.getD 5 []))).1 else [],if bp (W.getD 0 [])=1/\W.length=3 then (cu (W.getD 2 [])).1 else []⟩
theorem D4 {c:Call} (h:cOk c) (hn:aZ c.o):clI (bj c)=c:=by
 obtain ⟨h1,h2,h3,h4,h5,h6⟩:=h;have e0:=jC h1.1;obtain ⟨k,doc,client,seq,n,o,text⟩:=c;obtain ⟨hk,hd,hp,ht,a1,a2,a3,a4,a5⟩:=h1;unfold qV at h3 h4 h5;simp only at hk hd hp ht a1 a2 a3 a4 a5 h2 h3 h4 h5 h6 hn e0;have hc:k=1\/k=2\/k=3\/k=4\/k=5\/k=6\/k=7\/k=8:=by omega
 have z:bs []=⟨#[]⟩:=rfl;rcases hc with rfl|rfl|rfl|rfl|rfl|rfl|rfl|rfl
 all_goals
  simp [az] at a1 a2 a3 a4 a5;simp [clI,aw,bj,e0,az,q6,lI,mT,bK h3,bK h4,bK h5,rD,iP hn,m9 ht.2,a1,a2,a3,a4,a5,z]
def Call.none:Call:=⟨0,⟨#[]⟩,0,0,0,[],[]⟩
theorem dC {c:Call} (h:cOk c):al c=Lib.join (bj c) [32]:=by unfold al;rw [if_pos h]
open Classical in
noncomputable def fl (s:List UInt8):Call×Bool:=if h:∃ c,(cOk c/\aZ c.o)/\al c=s then (h.choose,true) else (Call.none,false)
theorem xk {a b:Call} (ha:cOk a/\aZ a.o) (hb:cOk b/\aZ b.o) (h:al a=al b):a=b:=by
 rw [<- vw ha.1 ha.2,<- vw hb.1 hb.2,<- f0 ha.1,<- f0 hb.1,<- dC ha.1,<- dC hb.1,h]
theorem lO {c:Call} (h:cOk c/\aZ c.o):fl (al c)=(c,true):=by
 unfold fl;have hx:∃ c',(cOk c'/\aZ c'.o)/\al c'=al c:=⟨c,h,rfl⟩;rw [dif_pos hx,xk hx.choose_spec.1 h hx.choose_spec.2]
theorem xL {s:List UInt8} (h:∀ c,cOk c/\aZ c.o->al c≠s):fl s=(Call.none,false):=by
 unfold fl;rw [dif_neg]
 rintro ⟨c,h1,h2⟩
 exact h c h1 h2
theorem rO {s:List UInt8} {f:List (List UInt8)->Call} (hf:∀ c,cOk c->aZ c.o->f (bj c)=c) (hn:aZ (f (aK 32 s)).o) :
 (al (f (aK 32 s))≠[]/\al (f (aK 32 s))=s->fl s=(f (aK 32 s),true))/\(¬ (al (f (aK 32 s))≠[]/\al (f (aK 32 s))=s)->fl s=(Call.none,false)):=by
 constructor
 ·rintro ⟨h1,h2⟩
  have hok:cOk (f (aK 32 s)):=by
   by_cases h:cOk (f (aK 32 s))
   ·exact h
   ·exact absurd (by unfold al;rw [if_neg h]) h1
  have:=lO ⟨hok,hn⟩
  rwa [h2] at this
 ·intro h
  refine xL λc hc h2=>h ?_
  have e1:f (aK 32 s)=c:=by rw [<- h2,dC hc.1,f0 hc.1,hf c hc.1 hc.2]
  rw [e1];refine ⟨λh0=>?_,h2⟩;rw [dC hc.1] at h0;have h9:=f0 hc.1;rw [h0] at h9;have h8:=hc.1.1.1;have e:=jC h8;unfold bj at h9;have h7:aK 32 []=[[]]:=rfl;rw [h7] at h9;have h6:=(List.cons.inj h9).1;rw [<- h6] at e;have:bp []=0:=by decide
  omega
end Go.Proofs.YthckkpphnmmfdaaGreatDoor
