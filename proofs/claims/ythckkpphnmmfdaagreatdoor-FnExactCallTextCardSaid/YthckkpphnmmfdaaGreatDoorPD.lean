import Derived.Test.YthckkpphnmmfdaaGreatDoorPC
import Derived.Test.YthckkpphnmmfdaaGreatDoorMF
import Derived.Lib.AtoiErrMem
import Derived.Lib.ConvBytes
import Derived.Lib.Hide
import Derived.LaidMore
import Derived.Lay
import Derived.HandedShaped
import Derived.Stop.LaidErr
import Derived.MakeChecks
import Derived.SevenTiedAt
import Derived.Lib.LaidTab
import Derived.Shelf.Vars
namespace Go.Proofs.YthckkpphnmmfdaaGreatDoor
open Go.AM
set_option maxRecDepth 20000
set_option maxHeartbeats 6400000
attribute [local simp] cN bT aC bS bR
theorem tR {l:List (List UInt8)} {B:Nat} (h:∀ w∈l,w.length<=B):Lib.lens l<=B*l.length:=by
 induction l with
 |nil=>simp [Lib.lens]
 | cons x l ih =>
   have h1:=h x (by simp);have h2:=ih λw hw=>h w (by simp [hw])
   have e:Lib.lens (x::l)=x.length+Lib.lens l:=by simp [Lib.lens]
   rw [e,List.length_cons,Nat.mul_succ];omega
theorem kg {l:List (List UInt8)} {B:Nat} {c:UInt8} (h:∀ w∈l,w.length<=B):(Lib.join l [c]).length<=(B+1)*l.length:=by
 cases l with
 |nil=>simp [Lib.join_nil]
 | cons x l =>
   rw [Lib.join_length];have:=tR h;rw [Nat.add_mul];simp at this ⊢;omega
theorem aF (n:Int):(aw n).length<=10:=by
 unfold aw
 split
 ·exact nd 9 _ (by omega)
 ·simp
theorem dA (l:List Int):(dg l).length<=11*l.length:=by
 have h:=kg (l:=l.map aw) (B:=10) (c:=46) (λw hw=>by obtain ⟨n,-,rfl⟩:=List.mem_map.1 hw;exact aF n)
 simpa [dg] using h
theorem fm (l:List Int) (hl:l.length<=2 ^ 40):ba Tryz.prog LT 89 [.c (.s (l.map aJ))] (.one (.c (vs (dg l)) 1)):=by
 refine ba.intro' al LT.stay Tryz.func89 (by kernel_rfl) rfl rfl rfl (Nat.le_of_ble_eq_true rfl) (λw0 base hE=>?_);simp;refine bk hE (λx:Nat×Hd=>x.1<=l.length) (λx=>⟨20,0,[(8,.v (.int .i64 x.1)),(7,.v (.int .i64 l.length)),(6,.ro (l.map aJ)),(3,.sl 5000 x.2 1 0 x.1)],[(5000,.rows x.2 1 (((l.take x.1).map aw).map wR) true)]⟩) (λx=>l.length - x.1) (0,none) (by simp) (by simp) (λx hx=>Ent.refl ?_);obtain ⟨i,H⟩:=x;simp only at hx ⊢;by_cases hlt:i<l.length
 ·simp [hlt]
  refine ap hE (aD l[i]) (by simp) ?_;simp;intro b;have e1:i=min i l.length:=by omega
  refine ⟨e1,by omega,λH2=>Ent.refl ⟨i+1,by omega,by omega,H2,?_⟩⟩;simp;exact ⟨aA (by omega),ey (f:=wR ∘ aw) hlt⟩
 ·have e:i=l.length:=by omega
  subst e;simp;refine ap hE (rB (l.map aw) 46 (by simpa using hl) (by have:=dA l;unfold dg at this;omega)) (by simp) ?_;simp [dg]
theorem ij (l:List Int) (hl:l.length<=2 ^ 40):ba Tryz.prog LT 47 [.c (.s (l.map aJ))] (.one (.c (vs (aN l)) 1)):=by
 refine ba.intro' al LT.stay Tryz.func47 (by kernel_rfl) rfl rfl rfl (Nat.le_of_ble_eq_true rfl) (λw0 base hE=>?_);simp;refine aa.pure (du l hl) (by simp) ?_;by_cases h:bn l
 ·by_cases h0:l=[]
  ·have e:aN l=[45]:=by unfold aN;rw [if_pos h,if_pos h0]
   have h0':(l.length:Int)=0:=by rw [h0];rfl
   simp [h,h0',e]
  ·have e:aN l=dg l:=dJ h h0
   have h0':¬ (l.length:Int)=0:=by have:=List.length_pos_iff.2 h0;omega
   simp [h,h0,e];refine ap hE (fm l hl) (by simp) ?_;simp
 ·have e:aN l=[]:=by unfold aN;rw [if_neg h]
  simp [h,e]
theorem nW {p:Part} (h:aq p):(ai p).length<=2201:=by
 have hb:=h.bounds;have h1:=aF p.n;have h2:=dA p.signs;unfold ai
 split
 ·simp;omega
 ·split<;>simp<;>omega
theorem dB (o:List Part):(bo o).length<=2500000:=by
 unfold bo
 split
 ·rename_i h
  split
  ·simp
  ·have h1:=(bW h).1
   have h2:=kg (l:=(aY o).map ai) (B:=2201) (c:=32) (λw hw=>by obtain ⟨p,hp,rfl⟩:=List.mem_map.1 hw;exact nW (h1.1.1 p hp));have h3:=h1.1.2;simp at h2;omega
 ·simp
end Go.Proofs.YthckkpphnmmfdaaGreatDoor
namespace Go.AM
open Go.RowKit
mutual
def fz (k:Nat) (H:Hd) (sz:Nat) (rs:List (List CD)):AV->AV
 | .sl k' H' sz' off len=>if k'=k then (if H'=H/\sz'=sz/\off+len<=rs.length then .ro (cut rs off len) else .any) else .sl k' H' sz' off len
 | .agg l=>.agg (fzL k H sz rs l)
 | .tup l=>.tup (fzL k H sz rs l)
 | .clo f l=>.clo f (fzL k H sz rs l)
 | .any=>.any
 | .un=>.un
 | .nil=>.nil
 | .v u=>.v u
 | .ro r=>.ro r
 | .p a b c=>.p a b c
 | .e a b c d e=>.e a b c d e
 | .rp r=>.rp r
 | .cv u n=>.cv u n
 | .ml a b c d=>.ml a b c d
 | .is u=>.is u
def fzL (k:Nat) (H:Hd) (sz:Nat) (rs:List (List CD)):List AV->List AV
 | []=>[]
 |a::l=>fz k H sz rs a::fzL k H sz rs l
end
def fzO (k:Nat) (H:Hd) (sz:Nat) (rs:List (List CD)):AObj->AObj
 | .vars b T cells=>.vars b T (fzL k H sz rs cells)
 |o=>o
def fzT (k:Nat) (H:Hd) (sz:Nat) (rs:List (List CD)) (t:List (Nat×AV)):List (Nat×AV):=t.map λp=>(p.1,fz k H sz rs p.2)
def fzH (k:Nat) (H:Hd) (sz:Nat) (rs:List (List CD)):AH->AH
 | []=>[]
 |(i,o)::h=>(i,fzO k H sz rs o)::fzH k H sz rs h
section rules
variable {k:Nat} {H:Hd} {sz:Nat} {rs:List (List CD)}
theorem ue:fzT k H sz rs []=[]:=(rfl)
theorem rR {i:Nat} {v:AV} {t:List (Nat×AV)}:fzT k H sz rs ((i,v)::t)=(i,fz k H sz rs v)::fzT k H sz rs t:=(rfl)
theorem rW {i:Nat} {o:AObj} {h:AH}:fzH k H sz rs ((i,o)::h)=(i,fzO k H sz rs o)::fzH k H sz rs h:=(rfl)
theorem ui:fzH k H sz rs []=[]:=(rfl)
theorem lY:∀ (W:bB) (i:Nat),fzH k H sz rs (bY i W)=bY i W
 | [],i=>rfl
 | q :: l, i => by
   have e:∀ xs:List Value,fzL k H sz rs (xs.map .is)=xs.map .is:=by
    intro xs
    induction xs with
    |nil=>rfl
    |cons x xs ih=>simp [fzL,fz,ih]
   simp [bY,fzH,phO,fzO,e,lY l]
theorem ug {W:bB}:fzH k H sz rs (phs W)=phs W:=lY W _
theorem rS {b:Nat} {T:TypeId} {l:List AV}:fzO k H sz rs (.vars b T l)=.vars b T (fzL k H sz rs l):=(rfl)
theorem rT {H':Hd} {sz':Nat} {r:List (List CD)} {own:Bool}:fzO k H sz rs (.rows H' sz' r own)=.rows H' sz' r own:=(rfl)
theorem rU:fzO k H sz rs .dead=.dead:=(rfl)
theorem uf:fzL k H sz rs []=[]:=by simp [fzL]
theorem rV {a:AV} {l:List AV}:fzL k H sz rs (a::l)=fz k H sz rs a::fzL k H sz rs l:=by rw [fzL]
theorem CB {u:Value}:fz k H sz rs (.v u)=.v u:=by rw [fz]
theorem xw:fz k H sz rs .any=.any:=by rw [fz]
theorem Ai:fz k H sz rs .un=.un:=by rw [fz]
theorem xu:fz k H sz rs .nil=.nil:=by rw [fz]
theorem Al {r:List (List CD)}:fz k H sz rs (.ro r)=.ro r:=by rw [fz]
theorem Ak {r:List CD}:fz k H sz rs (.rp r)=.rp r:=by rw [fz]
theorem An {u:Value} {n:Nat}:fz k H sz rs (.cv u n)=.cv u n:=by rw [fz]
theorem Am {a c d:Nat} {b:Hd}:fz k H sz rs (.ml a b c d)=.ml a b c d:=by rw [fz]
theorem CC {a b c:Nat}:fz k H sz rs (.p a b c)=.p a b c:=by rw [fz]
theorem CE {a c d e:Nat} {b:Hd}:fz k H sz rs (.e a b c d e)=.e a b c d e:=by rw [fz]
theorem xx {l:List AV}:fz k H sz rs (.agg l)=.agg (fzL k H sz rs l):=by rw [fz]
theorem xt {l:List AV}:fz k H sz rs (.tup l)=.tup (fzL k H sz rs l):=by rw [fz]
theorem xv {f:Nat} {l:List AV}:fz k H sz rs (.clo f l)=.clo f (fzL k H sz rs l):=by rw [fz]
theorem Aj {k' sz' off len:Nat} {H':Hd}:fz k H sz rs (.sl k' H' sz' off len)=if k'=k then (if H'=H/\sz'=sz/\off+len<=rs.length then .ro (cut rs off len) else .any) else .sl k' H' sz' off len:=by rw [fz]
end rules
attribute [simp] ue rR rW ui ug rS rT rU uf rV CB xw Ai xu Al Ak An Am CC CE xx xt xv Aj
open Go.RowKit
theorem aQ.ent {E:Env} {body:Code} {Q:Exit->ASt->Prop} {st:ASt} (h:Ent E st (aQ E body Q)):aQ E body Q st:=λa w hR=>by
 obtain ⟨st',h1,h2⟩:=h a w hR;exact h1 a w h2
end Go.AM
namespace Go.Proofs.YthckkpphnmmfdaaGreatDoor
open Go.AM
set_option maxRecDepth 20000
set_option maxHeartbeats 6400000
attribute [local simp] cN bT aC bS bR
theorem f9 {o:List Part} (h:cg o) (h0:aY o=[]):bo o=[45]:=by unfold bo;rw [if_pos h,if_pos h0]
theorem ga {o:List Part} (h:cg o) (h0:aY o≠[]):bo o=Lib.join ((aY o).map ai) [32]:=by unfold bo;rw [if_pos h,if_neg h0]
theorem kq (o:List Part) (hl:nL aE o<=2 ^ 40):ba Tryz.prog LT 92 [.c (.s (o.map Part.row))] (.one (.c (vs (bo o)) 1)):=by
 refine ba.intro' al LT.stay Tryz.func92 (by kernel_rfl) rfl rfl rfl (Nat.le_of_ble_eq_true rfl) (λw0 base hE=>?_);simp;refine aa.pure (eU o hl) (by simp) ?_;by_cases h:cg o
 rotate_left
 ·have e:bo o=[]:=by unfold bo;rw [if_neg h]
  simp [h,e]
 simp [h];refine aa.pure (kt o hl) (by simp) ?_;obtain ⟨h1,h2⟩:=bW h;have hz:=f9 h;have hs:=ga h;have hle:=dB o;generalize bo o=T at hz hs hle ⊢;have hsh:=lD (bW h);generalize aY o=q at h1 hz hs hsh ⊢;have hlen:=h1.1.2;simp;intro H;refine aQ.ent (ms 10 160 (by simp;exact ⟨rfl,rfl,rfl,rfl⟩) (by simp;exact ⟨rfl,rfl⟩) (by simp) (Ent.refl ?_));simp
 refine bk hE (λx:Nat×Hd=>x.1<=q.length) (λx=>⟨49,0,[(12,.v (.int .i64 x.1)),(11,.v (.int .i64 q.length)),(10,.ro (q.map Part.row)),(3,.sl 5000 x.2 1 0 x.1)],
  [(5000,.rows x.2 1 (((q.take x.1).map ai).map wR) true)]⟩) (λx=>q.length - x.1) (0,none) (by simp) (by simp) (λx hx=>Ent.refl ?_)
 obtain ⟨i,K⟩:=x;simp only at hx ⊢;by_cases hlt:i<q.length
 rotate_left
 ·have e:i=q.length:=by omega
  subst e;by_cases h0:q=[]
  ·subst h0
   simp [hz rfl]
  ·simp [h0]
   refine ap hE (rB (q.map ai) 32 (by simp;omega) (by rw [<- hs h0];omega)) (by simp) ?_;simp [hs h0]
 have hpt:=hsh q[i] (List.getElem_mem hlt);have hok:=h1.1.1 q[i] (List.getElem_mem hlt);obtain ⟨⟨k,n,s⟩,hp⟩:∃ p,q[i]=p:=⟨_,rfl⟩;have hps:ai q[i]=ai ⟨k,n,s⟩:=by rw [hp]
 rw [hp] at hpt hok;have hb:=hok.bounds;simp only at hb;simp [hlt,hp,Part.row];intro b5;have e1:i=min i q.length:=by omega
 have h10:=aF n;by_cases k1:k=1
 ·have hT:ai q[i]=107::aw n:=by rw [hps,k1];simp [ai]
  simp [k1];refine ap hE (aD n) (by simp) ?_;simp;refine ⟨by omega,λb=>⟨e1,by omega,λH2=>Ent.refl ⟨i+1,by omega,by omega,H2,?_⟩⟩⟩;simp;exact ⟨aA (by omega),by rw [<- hT];exact ey (f:=wR ∘ ai) hlt⟩
 by_cases k3:k=3
 ·have hT:ai q[i]=100::aw n:=by rw [hps,k3];simp [ai]
  simp [k3];refine ap hE (aD n) (by simp) ?_;simp;refine ⟨by omega,λb=>⟨e1,by omega,λH2=>Ent.refl ⟨i+1,by omega,by omega,H2,?_⟩⟩⟩;simp;exact ⟨aA (by omega),by rw [<- hT];exact ey (f:=wR ∘ ai) hlt⟩
 have k2:k=2:=by omega
 have hT:ai q[i]=112::dg s:=by rw [hps,k2];simp [ai]
 have hsl:=dA s;simp [k2];refine ap hE (fm s (by omega)) (by simp) ?_;simp;refine ⟨by omega,λb=>⟨e1,by omega,λH2=>Ent.refl ⟨i+1,by omega,by omega,H2,?_⟩⟩⟩;simp;exact ⟨aA (by omega),by rw [<- hT];exact ey (f:=wR ∘ ai) hlt⟩
def fN (s:List UInt8):List UInt8:=s.map λx=>if x=32 then 44 else x
theorem kp (o:List Part) (hl:nL aE o<=2 ^ 40):ba Tryz.prog LT 49 [.c (.s (o.map Part.row))] (.one (.c (vs (fN (bo o))) 1)):=by
 refine ba.intro' al LT.stay Tryz.func49 (by kernel_rfl) rfl rfl rfl (Nat.le_of_ble_eq_true rfl) (λw0 base hE=>?_);have hle:=dB o;simp;refine ap hE (kq o hl) (by simp) ?_;simp;refine ap hE (oM (bo o) 32 44 (by decide) (by omega)) (by simp) ?_;simp [fN]
end Go.Proofs.YthckkpphnmmfdaaGreatDoor
namespace Go.Proofs.YthckkpphnmmfdaaGreatDoor
open Go.AM
set_option maxRecDepth 20000
set_option maxHeartbeats 6400000
attribute [local simp] cN bT aC bS bR
theorem eC {α:Type} {l:List α} {i:Nat} (h:i<l.length) (f:α->List UInt8) (c:UInt8) :
 Lib.join ((l.map f).take (i+1)) [c]=if i=0 then f l[i] else Lib.join ((l.map f).take i) [c]++c::f l[i]:=by
 have h':i<(l.map f).length:=by simpa using h
 rw [List.take_succ_eq_append_getElem h',pb,List.getElem_map];by_cases h0:i=0
 ·subst h0;simp
 ·rw [if_neg h0,if_neg]
  intro e;have:=congrArg List.length e;rw [List.length_take,Nat.min_eq_left (by omega)] at this;exact h0 this
theorem dM {α:Type} {l:List α} {i:Nat} (f:α->List UInt8) (c:UInt8) {B:Nat} (h:∀ a∈l,(f a).length<=B):(Lib.join ((l.map f).take i) [c]).length<=(B+1)*l.length:=by
 have h1:=kg (l:=(l.map f).take i) (B:=B) (c:=c) (λw hw=>by
  obtain ⟨a,ha,rfl⟩:=List.mem_map.1 (List.mem_of_mem_take hw);exact h a ha)
 have h2:((l.map f).take i).length<=l.length:=by simp;omega
 exact Nat.le_trans h1 (Nat.mul_le_mul_left _ h2)
theorem cV (l:List Int) (hl:l.length<=2 ^ 40):ak Tryz.prog 37 [.c (.s (l.map aJ))] (.one (.c (vs (aN l)) 1)):=by
 refine pci al Tryz.func37 (λw0 base=>?_);simp;refine aa.pure (dq l hl) (by simp) ?_;by_cases h:bn l
 rotate_left
 ·have e:aN l=[]:=by unfold aN;rw [if_neg h]
  simp [h,e]
 by_cases h0:l=[]
 ·have e:aN l=[45]:=by unfold aN;rw [if_pos h,if_pos h0]
  subst h0;simp [h,e]
 have e:aN l=dg l:=dJ h h0;have hj:∀ i,(Lib.join ((l.map aw).take i) [46]).length<=11*l.length:=λi=>dM aw 46 (λn _=>aF n)
 simp [h,h0,e];refine bk eok (λi:Nat=>i<=l.length) (λi=>⟨29,0,[(14,.v (.int .i64 i)),(13,.v (.int .i64 l.length)),(12,.ro (l.map aJ)),(3,.v (.string (bs (Lib.join ((l.map aw).take i) [46]))))],[]⟩) (λi=>l.length - i) 0 (by simp) (by simp [Lib.join_nil]) (λi hi=>Ent.refl ?_);by_cases hlt:i<l.length
 rotate_left
 ·have e:i=l.length:=by omega
  have ht:(l.map aw).take l.length=l.map aw:=List.take_of_length_le (by simp);subst e;simp [dg,ht]
 have hn:=eC hlt aw 46;have hji:=hj i;have hni:=aF l[i];by_cases hi0:i=0
 ·subst hi0
  simp [hlt];refine aa.pure (ax l[0]) (by simp) ?_;simp [Lib.join_nil];refine ⟨by omega,Ent.refl ⟨1,by omega,by omega,?_⟩⟩;rw [if_pos rfl] at hn;simp [hn];rfl
 ·have hi1:0<i:=by omega
  rw [if_neg hi0] at hn;generalize Lib.join ((l.map aw).take i) [46]=S at hn hji ⊢;simp [hlt,hi1];refine ⟨by omega,?_⟩;refine aa.pure (ax l[i]) (by simp) ?_;simp;refine ⟨by omega,Ent.refl ⟨i+1,by omega,by omega,?_⟩⟩;simp [hn];exact aA (by omega)
theorem j2 (o:List Part) (hl:nL aE o<=2 ^ 40):ak Tryz.prog 79 [.c (.s (o.map Part.row))] (.one (.c (vs (bo o)) 1)):=by
 refine pci al Tryz.func79 (λw0 base=>?_);simp;refine aa.pure (eO o hl) (by simp) ?_;by_cases h:cg o
 rotate_left
 ·have e:bo o=[]:=by unfold bo;rw [if_neg h]
  simp [h,e]
 simp [h];refine aa.pure (j3 o hl) (by simp) ?_;obtain ⟨h1,h2⟩:=bW h;have hz:=f9 h;have hs:=ga h;have hle:=dB o;generalize bo o=T at hz hs hle ⊢;have hsh:=lD (bW h);generalize aY o=q at h1 hz hs hsh ⊢;have hlen:=h1.1.2;simp;intro H;refine aQ.ent (ms 10 160 (by simp;exact ⟨rfl,rfl,rfl,rfl⟩) (by simp;exact ⟨rfl,rfl⟩) (by simp) (Ent.refl ?_));simp;have hj:∀ i,(Lib.join ((q.map ai).take i) [32]).length<=2202*q.length:=λi=>dM ai 32 (λp hp=>nW (h1.1.1 p hp))
 refine bk eok (λi:Nat=>i<=q.length) (λi=>⟨48,0,[(12,.v (.int .i64 i)),(11,.v (.int .i64 q.length)),(10,.ro (q.map Part.row)),(3,.v (.string (bs (Lib.join ((q.map ai).take i) [32]))))],[]⟩) (λi=>q.length - i) 0 (by simp) (by simp [Lib.join_nil]) (λi hx=>Ent.refl ?_)
 have hne:∀ i,0<i->i<=q.length->Lib.join ((q.map ai).take i) [32]≠[]:=λi hi hq=>by
  obtain ⟨j,rfl⟩:∃ j,i=j+1:=⟨i - 1,by omega⟩;rw [eC (show j<q.length by omega) ai 32]
  split
  ·exact tu _
  ·simp
 have hji:=hj i;by_cases hlt:i<q.length
 rotate_left
 ·have e:i=q.length:=by omega
  subst e;by_cases h0:q=[]
  ·subst h0
   simp [hz rfl,Lib.join_nil]
  ·have hn:=hne q.length (List.length_pos_iff.2 h0) (Nat.le_refl _)
   have ht:(q.map ai).take q.length=q.map ai:=List.take_of_length_le (by simp);rw [ht] at hn;simp [ht,hn,hs h0]
 have hpt:=hsh q[i] (List.getElem_mem hlt);have hok:=h1.1.1 q[i] (List.getElem_mem hlt);have hn:=eC hlt ai 32;obtain ⟨⟨k,n,s⟩,hp⟩:∃ p,q[i]=p:=⟨_,rfl⟩;rw [hp] at hpt hok hn;have hb:=hok.bounds;simp only at hb;have h10:=aF n;by_cases hi0:i=0
 ·subst hi0
  rw [if_pos rfl] at hn;simp [hlt,hp,Part.row,Lib.join_nil];intro b5;by_cases k1:k=1
  ·have hT:ai ⟨k,n,s⟩=107::aw n:=by rw [k1];simp [ai]
   rw [hT] at hn;simp [k1];refine aa.pure (ax n) (by simp) ?_;simp;refine ⟨by omega,Ent.refl ⟨1,by omega,by omega,?_⟩⟩;simp [hn];rfl
  have k23:k=2\/k=3:=by omega
  rcases k23 with k2|k3
  ·have hT:ai ⟨k,n,s⟩=112::dg s:=by rw [k2];simp [ai]
   rw [hT] at hn;have hso:=(hpt.1.put k2).2;have hsn:=nK hpt.1 k2;have hsl:=dA s;simp only at hso hsn;simp [k2];refine aa.pure (cV s (by omega)) (by simp) ?_;rw [dJ hso hsn];simp;refine ⟨by omega,Ent.refl ⟨1,by omega,by omega,?_⟩⟩;simp [hn];rfl
  ·have hT:ai ⟨k,n,s⟩=100::aw n:=by rw [k3];simp [ai]
   rw [hT] at hn;simp [k3];refine aa.pure (ax n) (by simp) ?_;simp;refine ⟨by omega,Ent.refl ⟨1,by omega,by omega,?_⟩⟩;simp [hn];rfl
 ·have hn0:=hne i (by omega) hx
  rw [if_neg hi0] at hn;generalize Lib.join ((q.map ai).take i) [32]=S at hn hji hn0 ⊢;simp [hlt,hp,Part.row,hn0];intro b5;refine ⟨by omega,?_⟩;by_cases k1:k=1
  ·have hT:ai ⟨k,n,s⟩=107::aw n:=by rw [k1];simp [ai]
   rw [hT] at hn;simp [k1];refine ⟨by omega,?_⟩;refine aa.pure (ax n) (by simp) ?_;simp;refine ⟨by omega,Ent.refl ⟨i+1,by omega,by omega,?_⟩⟩;simp [hn];exact aA (by omega)
  have k23:k=2\/k=3:=by omega
  rcases k23 with k2|k3
  ·have hT:ai ⟨k,n,s⟩=112::dg s:=by rw [k2];simp [ai]
   rw [hT] at hn;have hso:=(hpt.1.put k2).2;have hsn:=nK hpt.1 k2;have hsl:=dA s;simp only at hso hsn;simp [k2];refine ⟨by omega,?_⟩;refine aa.pure (cV s (by omega)) (by simp) ?_;rw [dJ hso hsn];simp;refine ⟨by omega,Ent.refl ⟨i+1,by omega,by omega,?_⟩⟩;simp [hn];exact aA (by omega)
  ·have hT:ai ⟨k,n,s⟩=100::aw n:=by rw [k3];simp [ai]
   rw [hT] at hn;simp [k3];refine ⟨by omega,?_⟩;refine aa.pure (ax n) (by simp) ?_;simp;refine ⟨by omega,Ent.refl ⟨i+1,by omega,by omega,?_⟩⟩;simp [hn];exact aA (by omega)
end Go.Proofs.YthckkpphnmmfdaaGreatDoor
namespace Go.Proofs.YthckkpphnmmfdaaGreatDoor
open Go.AM
set_option maxRecDepth 20000
set_option maxHeartbeats 6400000
attribute [local simp] cN bT aC bS bR
theorem fM (o:List Part):(fN (bo o)).length<=2500000:=by have:=dB o;simpa [fN] using this
end Go.Proofs.YthckkpphnmmfdaaGreatDoor
namespace Go.Proofs.YthckkpphnmmfdaaGreatDoor
open Go.AM Go.RowKit
set_option maxRecDepth 100000
set_option maxHeartbeats 4000000
def bC (w0:World) (b:Nat) (l:List UInt8) (W:World):Prop:=
 Below w0.heap.size w0 W/\w0.heap.size<=b/\∃ cs:Array Value,W.heap[b]? = some (.cells cs 5 (cs.size,cs.size+1))/\∀ (j:Nat) (h:j<l.length),cs[j]? = some (.int .u8 l[j].toNat)
theorem bC.cell {w0:World} {b:Nat} {l:List UInt8} {W:World} (h:bC w0 b l W) {j:Nat} (hj:j<l.length):W.cell? ⟨b,j,none⟩=some (.int .u8 l[j].toNat):=by
 obtain ⟨-,-,cs,hb,hc⟩:=h;unfold World.cell?;rw [hb];exact hc j hj
theorem bC.soft {w0:World} {b:Nat} {l:List UInt8} {W:World} (h:bC w0 b l W) {j:Nat} (hj:j<l.length):W.frozen? ⟨b,j,none⟩=false:=by
 obtain ⟨-,-,cs,hb,hc⟩:=h;have:=(Array.getElem?_eq_some_iff.1 (hc j hj)).1;unfold World.frozen?;rw [hb];simp;omega
theorem bC.set {w0:World} {b:Nat} {l:List UInt8} {W:World} (h:bC w0 b l W) {j:Nat} (hj:j<l.length) (x:UInt8):bC w0 b (l.set j x) (W.setCell ⟨b,j,none⟩ (.int .u8 x.toNat)):=by
 obtain ⟨h1,h2,cs,hb,hc⟩:=h;have hlt:=bu hb;refine ⟨h1.trans ⟨rfl,rfl,rfl,by simp [World.setCell],λk hk=>?_⟩,h2,cs.setIfInBounds j (.int .u8 x.toNat),?_,λi hi=>?_⟩
 ·have:b≠k:=by have:=h1.size;omega
  simp [World.setCell,Array.getElem?_modify,this]
 ·simp [World.setCell,Array.getElem?_modify,hb]
 ·rw [List.length_set] at hi
  rw [Array.getElem?_setIfInBounds];by_cases e:j=i
  ·subst e
   have:=(Array.getElem?_eq_some_iff.1 (hc j hj)).1;simp [this]
  ·rw [if_neg e,hc i hi,List.getElem_set_ne e]
theorem mt {w0 w1:World} (h:Below w0.heap.size w0 w1) (l:List UInt8):bC w0 w1.heap.size l (Lib.bytesWorld w1 5 (bs l)):=by
 refine ⟨h.trans ((Lib.bytesWorld_below w1 _ _).mono h.size),h.size,_,Lib.bytesWorld_at_new w1 _ _,λj hj=>?_⟩;unfold Lib.bytesCells;rw [Array.getElem?_append_left (by simpa [bs] using hj)];simp [bs,hj]
theorem bC.text {w0:World} {b:Nat} {l:List UInt8} {W:World} (h:bC w0 b l W) (hl:l.length<=2 ^ 40) (c:Nat) {s d e:TypeId} (hs:Tryz.prog.underlying s=some (.slice e)) (he:Tryz.prog.underlying e=some (.int .u8)) (hd:Tryz.prog.underlying d=some .string) :
 (convert s d (.slice (some ⟨b,0,none⟩) l.length c)).run Tryz.prog W=.ok (.string (bs l)) W:=by
 rw [run_convert_bytes_string W s d e _ _ _ hs he hd];obtain ⟨-,-,cs,hb,hc⟩:=h
 have hr:Rd W false (λ_=>True) (.slice (some ⟨b,0,none⟩) (l.map aU).length (l.map aU).length) (.s (l.map aU)):=by
  refine .slice b 0 _ 1 cs _ _ _ (λ_ _ _=>False) (Nat.le_refl _) (by rw [List.length_map];unfold maxLen;omega) (by omega) trivial hb ?_ (λh=>by cases h) (λ_ _ _ h=>h.elim) (λh=>by cases h) (by simp [aU]) ?_
  ·cases hn:l.length with
   |zero=>simp [hn]
   | succ n =>
     have:=(Array.getElem?_eq_some_iff.1 (hc n (by omega))).1;simp [hn];omega
  ·intro i j row x hi hj
   rw [List.getElem?_map] at hi
   cases hx:l[i]? with
   |none=>rw [hx] at hi;cases hi
   | some y =>
     rw [hx] at hi
     cases hi
     obtain ⟨hil,rfl⟩:=List.getElem?_eq_some_iff.1 hx
     match j,hj with
     | 0, hj =>
       cases hj
       have h1:=hc i hil;have e3:0+(i*1+0)=i:=by omega
       rw [e3,Array.getD_eq_getD_getElem?,h1];exact .plain rfl
 have:=(iy (P:=Tryz.prog) hr).1;rw [List.length_map] at this;exact this
def dL (f:UInt8->UInt8) (l:List UInt8) (k:Nat):List UInt8:=(l.take k).map f++l.drop k
theorem ic (f:UInt8->UInt8) (l:List UInt8) (k:Nat):(dL f l k).length=l.length:=by simp [dL];omega
theorem oT (f:UInt8->UInt8) (l:List UInt8):dL f l 0=l:=by simp [dL]
theorem rn (f:UInt8->UInt8) (l:List UInt8):dL f l l.length=l.map f:=by simp [dL]
theorem od (f:UInt8->UInt8) {l:List UInt8} {k:Nat} (h:k<l.length) (h':k<(dL f l k).length):(dL f l k)[k]'h'=l[k]:=by
 have hA:((l.take k).map f).length=k:=by simp;omega
 have e:(dL f l k)[k]? = l[k]?:=by
  unfold dL;rw [List.getElem?_append_right (by omega),hA,Nat.sub_self,List.getElem?_drop,Nat.add_zero]
 rw [List.getElem?_eq_getElem h',List.getElem?_eq_getElem h] at e;exact Option.some.inj e
theorem lI (f:UInt8->UInt8) {l:List UInt8} {k:Nat} (h:k<l.length):(dL f l k).set k (f l[k])=dL f l (k+1):=by
 have hA:((l.take k).map f).length=k:=by simp;omega
 unfold dL;rw [List.set_append_right _ _ (by omega),hA,Nat.sub_self,List.drop_eq_getElem_cons h,List.set_cons_zero,List.take_succ_eq_append_getElem h,List.map_append,List.append_assoc];rfl
theorem oU (f:UInt8->UInt8) {l:List UInt8} {k:Nat} (h:k<l.length) (e:f l[k]=l[k]):dL f l (k+1)=dL f l k:=by
 rw [<- lI f h,e];have h':k<(dL f l k).length:=by rw [ic];exact h
 have e2:=List.set_getElem_self h'
 rwa [od f h] at e2
def c8 (x:UInt8):UInt8:=if x=32 then 44 else x
theorem tW (o:Value) (l:List UInt8) (w:World) (hl:l.length<=2 ^ 40)
 (A:Calls Tryz.prog 79 #[o] w λe w'=>e=.returned (.string (bs l))/\Below w.heap.size w w') :
 Calls Tryz.prog 36 #[o] w λe w'=>e=.returned (.string (bs (l.map c8)))/\Below w.heap.size w w':=by
 have mixed:Tryz.prog.follows .mixedOrders=true:=by kernel_rfl
 go_enter Tryz.func36,Tryz.ntmps36
 go_wp2_with (go_at_call 79;refine A.mono ?_;rintro e w1 ⟨rfl,h1⟩)
 have hcv:=Lib.run_convert_string_bytes (P:=Tryz.prog) w1 9 44 5 (bs l) (u:=.string) Tryz.underlying9 Tryz.underlying44 Tryz.underlying5;have hB0:Hid (bC w w1.heap.size (dL c8 l 0) (Lib.bytesWorld w1 5 (bs l))):=by rw [oT];exact mt h1 l
 rw [aC] at hcv;generalize Lib.bytesWorld w1 5 (bs l)=w2 at hcv hB0;generalize grownCap w1 l.length 0 5=C at hcv;generalize w1.heap.size=b at hcv hB0
 clear h1 A
 obtain ⟨n,hn⟩:∃ n,n=l.length:=⟨_,rfl⟩;rw [<- hn] at hcv;have HN:=Lib.hid hn
 clear hn
 rw [hcv]
 clear hcv
 go_wp2
 have hnl:n<=l.length:=by have:=HN.out;omega
 have hnl2:l.length<=n:=by have:=HN.out;omega
 go_loopw [11] (λvi wr=>∃ k:Nat,vi=.int .i64 k/\k<=n/\Hid (bC w b (dL c8 l k) wr)) (λvi _=>n - (intOf vi).toNat)
 case atStart=>exact ⟨0,rfl,Nat.zero_le _,hB0⟩
 case round=>
  obtain ⟨k,rfl,hk,hb⟩:=hrel
  clear hB0
  by_cases hkn:k<n
  ·have hkl:k<l.length:=by omega
   have hkm:k<(dL c8 l k).length:=by rw [ic];exact hkl
   have hc:=hb.out.cell hkm;have hf:=hb.out.soft hkm;rw [od c8 hkl hkm] at hc;by_cases h32:l[k]=32
   ·rw [h32] at hc
    have H32:=Lib.hid h32
    clear h32 hkm
    go_wp2
    refine ⟨⟨k+1,by simp,hkn,?_⟩,by simp [intOf];omega⟩;have e:c8 l[k]=44:=by unfold c8;rw [if_pos H32.out]
    have h2:=hb.out.set (by rw [ic];exact hkl) (44:UInt8);have h3:=lI c8 hkl;rw [e] at h3;rw [h3] at h2;exact h2
   ·have e:c8 l[k]=l[k]:=by unfold c8;rw [if_neg h32]
    have h3:=Lib.hid (oU c8 hkl e)
    clear e
    have hd:¬ (l[k].toNat:Int)=32:=λh=>h32 (UInt8.toNat_inj.1 (by simpa using Int.ofNat.inj h))
    clear h32 hkm
    generalize l[k]=c at hc hd
    go_wp2
    refine ⟨⟨k+1,by simp,hkn,?_⟩,by simp [intOf];omega⟩;have:=hb.out;rw [<- h3.out] at this;exact this
  ·have hkn':k=n:=by omega
   subst hkn';have hB:=hb.out;rw [HN.out,rn] at hB;have ht:=hB.text (by rw [List.length_map];exact hl) C Tryz.underlying44 Tryz.underlying5 Tryz.underlying9;rw [List.length_map,<- HN.out] at ht;have HB:=Lib.hid hB
   clear hB
   go_wp2
   go_ret
   exact ⟨rfl,HB.out.1⟩
theorem lm (o:List Part) (hl:nL aE o<=2 ^ 40):ak Tryz.prog 36 [.c (.s (o.map Part.row))] (.one (.c (vs (fN (bo o))) 1)):=by
 refine ⟨⟨_,Tryz.func36,by kernel_rfl,by kernel_rfl⟩,λw _ xs hxs hargs=>?_⟩;obtain ⟨a,rfl⟩:=Ay hxs;have hle:=dB o;refine (tW a (bo o) w (by omega) (((j2 o hl).2 w trivial #[a] rfl hargs).mono ?_)).mono ?_
 ·rintro e w' ⟨v,rfl,hb,hv⟩
  obtain ⟨rfl,-⟩:=hv;exact ⟨rfl,hb⟩
 ·rintro e w' ⟨rfl,hb⟩
  exact ⟨_,rfl,hb,rfl,rfl⟩
open Go.AM
set_option maxRecDepth 20000
set_option maxHeartbeats 6400000
attribute [local simp] cN bT aC bS bR wR
theorem w64 {j:Int} (h0:0<=j) (h1:j<1000):IntKind.i64.wrap j=j:=Go.IntWalk.i64_in _ (by omega)
def c9 (k:Int):List UInt8:=if k=1 then [111,112,101,110] else if k=2 then [115,117,98,109,105,116] else if k=3 then [102,101,116,99,104] else if k=4 then [115,110,97,112] else if k=5 then [115,117,98] else if k=6 then [112,111,108,108] else if k=7 then [114,101,115,121,110,99] else if k=8 then [115,104,117,116] else []
theorem fo (k:Int):ak Tryz.prog 46 [.c (vi k)] (.one (.c (vs (c9 k)) 1)):=by
 refine pci al Tryz.func46 (λw0 base=>?_);simp;intro b;refine aa.pure (bb k 1 8) (by simp) ?_;by_cases h:1<=k/\k<=8
 ·have hc:k=1\/k=2\/k=3\/k=4\/k=5\/k=6\/k=7\/k=8:=by omega
  rcases hc with rfl|rfl|rfl|rfl|rfl|rfl|rfl|rfl
  all_goals simp [c9,w64]
 ·have e:c9 k=[]:=by
   unfold c9;rw [if_neg (by omega)];rw [if_neg (by omega)];rw [if_neg (by omega)];rw [if_neg (by omega)];rw [if_neg (by omega)];rw [if_neg (by omega)];rw [if_neg (by omega)];rw [if_neg (by omega)]
  simp [h,e]
theorem fb (k:Int):ak Tryz.prog 34 [.c (vi k)] (.one (.c (vs (c9 k)) 1)):=by
 refine pci al Tryz.func34 (λw0 base=>?_);simp;refine aa.pure (gX k) (by simp) ?_;by_cases h:1<=k/\k<=8
 ·have hc:k=1\/k=2\/k=3\/k=4\/k=5\/k=6\/k=7\/k=8:=by omega
  rcases hc with rfl|rfl|rfl|rfl|rfl|rfl|rfl|rfl
  all_goals simp [c9]
 ·have e:c9 k=[]:=by
   unfold c9;rw [if_neg (by omega)];rw [if_neg (by omega)];rw [if_neg (by omega)];rw [if_neg (by omega)];rw [if_neg (by omega)];rw [if_neg (by omega)];rw [if_neg (by omega)];rw [if_neg (by omega)]
  simp [h,e]
end Go.Proofs.YthckkpphnmmfdaaGreatDoor
namespace Go.Proofs.YthckkpphnmmfdaaGreatDoor
open Go.AM
set_option maxRecDepth 20000
set_option maxHeartbeats 6400000
attribute [local simp] cN bT aC bS bR
theorem ed (l:List Int):(aN l).length<=11*l.length+1:=by
 have:=dA l;unfold aN
 split
 ·split
  ·simp
  ·omega
 ·simp
end Go.Proofs.YthckkpphnmmfdaaGreatDoor
namespace Go.Proofs.YthckkpphnmmfdaaGreatDoor
open Go.AM
set_option maxRecDepth 20000
set_option maxHeartbeats 6400000
attribute [local simp] cN bT aC bS bR
def wU (n:Int):Prop:=0<=n/\n<=1000000000
end Go.Proofs.YthckkpphnmmfdaaGreatDoor
namespace Go.Proofs.YthckkpphnmmfdaaGreatDoor
open Go.AM
set_option maxRecDepth 20000
set_option maxHeartbeats 6400000
attribute [local simp] cN bT aC bS bR bZ
def bX (k:Int):Prop:=k=2\/k=6\/k=7
def a8 (k:Int):Prop:=k=2\/k=3\/k=5\/k=6
open Classical in
noncomputable def am (c:Call):List (List UInt8):=c9 c.kind::((if ag c.kind then [c.doc.data.toList] else [])++((if bX c.kind then [aw c.client] else [])++((if c.kind=2 then [aw c.seq] else []) ++
 ((if a8 c.kind then [aw c.n] else [])++((if c.kind=2 then [fN (bo c.o)] else [])++(if c.kind=1 then [aN c.text] else []))))))
def cOk (c:Call):Prop:=aM c/\cg c.o/\wU c.client/\wU c.seq/\wU c.n/\(ag c.kind->cD c.doc)
open Classical in
noncomputable def bp (c:Call):List UInt8:=if cOk c then Lib.join (am c) [32] else []
theorem gl {w v:List UInt8} {r:List (List UInt8)} {c:UInt8}:Lib.join (w::v::r) [c]=w++c::Lib.join (v::r) [c]:=by
 rw [Lib.join_cons,Lib.join_cons];simp [Lib.joinTail]
theorem rE {rd:Value->CD->Prop} {h:AH} {u:Value}:eL rd h [.v u] [.c (.v u)]:=by simp
theorem fU (k:Int):(c9 k).length<=10:=by
 unfold c9
 (repeat' split)<;>decide
theorem ik (c:Call) (hl:bK c<=2 ^ 36):ba Tryz.prog LT 10 [.agg c.row] (.one (.c (vs (bp c)) 1)):=by
 refine ba.intro' al LT.stay Tryz.func10 (by kernel_rfl) rfl rfl rfl (Nat.le_of_ble_eq_true rfl) (λw0 base eok=>?_);have hno:¬ cOk c->bp c=[]:=λh=>by unfold bp;rw [if_neg h]
 have hyes:cOk c->bp c=Lib.join (am c) [32]:=λh=>by unfold bp;rw [if_pos h]
 generalize bp c=T at hno hyes ⊢;have hl0:=hl;unfold bK at hl;have h1:=aF c.client;have h2:=aF c.seq;have h3:=aF c.n;have h4:=fM c.o;have h5:=ed c.text;simp [Call.row];intro b;refine aa.pure (kw c hl0) (by simp [Call.row]) ?_;by_cases c1:aM c
 rotate_left
 ·simp [c1,hno (λh=>c1 h.1)]
 simp [c1];refine aa.pure (eU c.o (by omega)) (by simp) ?_;by_cases c2:cg c.o
 rotate_left
 ·simp [c2,hno (λh=>c2 h.2.1)]
 simp [c2];refine aa.pure (aj c.kind) (by simp) ?_;have hcl:=fU c.kind;have hdoc:=c1.2.1;by_cases d:ag c.kind
 ·simp [d]
  refine aa.pure (kv c.doc (by omega)) (by simp) ?_;by_cases nm:cD c.doc
  rotate_left
  ·simp [nm,hno (λh=>nm (h.2.2.2.2.2 d))]
  simp [nm];refine aa.pure (bb c.client 0 1000000000) (by simp) ?_;by_cases c4:0<=c.client/\c.client<=1000000000
  rotate_left
  ·simp [c4,hno (λh=>c4 h.2.2.1)]
  simp [c4];refine aa.pure (bb c.seq 0 1000000000) (by simp) ?_;by_cases c5:0<=c.seq/\c.seq<=1000000000
  rotate_left
  ·simp [c5,hno (λh=>c5 h.2.2.2.1)]
  simp [c5];refine aa.pure (bb c.n 0 1000000000) (by simp) ?_;by_cases c6:0<=c.n/\c.n<=1000000000
  rotate_left
  ·simp [c6,hno (λh=>c6 h.2.2.2.2.1)]
  simp [c6];have ok:cOk c:=⟨c1,c2,c4,c5,c6,λ_=>nm⟩;rw [hyes ok];refine aa.pure (fo c.kind) (by simp) ?_;simp;refine aa.pure (aj c.kind) (by simp) ?_;simp [d];obtain ⟨kind,doc,client,seq,n,o,text⟩:=c;simp only at *;obtain ⟨D,rfl⟩:∃ D,doc=bs D:=⟨doc.data.toList,(kL doc).symm⟩;rw [aC] at hdoc;have hc:kind=1\/kind=2\/kind=3\/kind=4\/kind=5:=by unfold ag at d;omega
  simp;refine ⟨by omega,by omega,?_⟩;rcases hc with rfl|rfl|rfl|rfl|rfl
  ·simp
   refine ap eok (ij text (by omega)) (by simp) ?_;simp;refine ⟨by omega,by omega,?_⟩;simp [am,ag,bX,a8,gl,Lib.join_one]
  ·obtain ⟨T,hT⟩:∃ T,Lib.join (am ⟨2,bs D,client,seq,n,o,text⟩) [32]=T:=⟨_,rfl⟩
   rw [hT];simp [am,ag,bX,a8,gl,Lib.join_one] at hT;simp;refine iQ (λx:Unit=>[(3,.v (.string (bs T)))]) (λx=>[]) [1] ?_ ?_
   ·refine drw eok mix [0,1,2,6,7,11,12,16,17] [3,4,5,8,9,10,13,14,15,18,19,20,21] (.c 9 3 64 447 (.c 9 4 0 447 (.c 9 5 0 447 (.c 9 8 16 431 (.c 9 9 0 431 (.c 9 10 0 431 (.c 9 13 4 427 (.c 9 14 0 427 (.c 9 15 0 427 (.c 9 18 1 426 (.c 9 19 0 426 (.c 9 20 256 170 (.c 9 21 170 0 (.l 9 0) .s) .s) .s) .s) (.c 9 18 1 426 (.c 9 15 0 426 (.c 9 19 0 426 (.c 9 20 256 170 (.c 9 21 170 0 (.l 9 0) .s) .s) .s) .s) .s)) (.c 9 18 1 426 (.c 9 14 0 426 (.c 9 15 0 426 (.c 9 19 0 426 (.c 9 20 256 170 (.c 9 21 170 0 (.l 9 0) .s) .s) .s) .s) .s) .s)) .s) (.c 9 13 4 427 (.c 9 10 0 427 (.c 9 14 0 427 (.c 9 15 0 427 (.c 9 18 1 426 (.c 9 19 0 426 (.c 9 20 256 170 (.c 9 21 170 0 (.l 9 0) .s) .s) .s) .s) (.c 9 18 1 426 (.c 9 15 0 426 (.c 9 19 0 426 (.c 9 20 256 170 (.c 9 21 170 0 (.l 9 0) .s) .s) .s) .s) .s)) (.c 9 18 1 426 (.c 9 14 0 426 (.c 9 15 0 426 (.c 9 19 0 426 (.c 9 20 256 170 (.c 9 21 170 0 (.l 9 0) .s) .s) .s) .s) .s) .s)) (.c 9 18 1 426 (.c 9 10 0 426 (.c 9 14 0 426 (.c 9 15 0 426 (.c 9 19 0 426 (.c 9 20 256 170 (.c 9 21 170 0 (.l 9 0) .s) .s) .s) .s) .s) .s) .s)) .s)) (.c 9 13 4 427 (.c 9 9 0 427 (.c 9 10 0 427 (.c 9 14 0 427 (.c 9 15 0 427 (.c 9 18 1 426 (.c 9 19 0 426 (.c 9 20 256 170 (.c 9 21 170 0 (.l 9 0) .s) .s) .s) .s) (.c 9 18 1 426 (.c 9 15 0 426 (.c 9 19 0 426 (.c 9 20 256 170 (.c 9 21 170 0 (.l 9 0) .s) .s) .s) .s) .s)) (.c 9 18 1 426 (.c 9 14 0 426 (.c 9 15 0 426 (.c 9 19 0 426 (.c 9 20 256 170 (.c 9 21 170 0 (.l 9 0) .s) .s) .s) .s) .s) .s)) (.c 9 18 1 426 (.c 9 10 0 426 (.c 9 14 0 426 (.c 9 15 0 426 (.c 9 19 0 426 (.c 9 20 256 170 (.c 9 21 170 0 (.l 9 0) .s) .s) .s) .s) .s) .s) .s)) (.c 9 18 1 426 (.c 9 9 0 426 (.c 9 10 0 426 (.c 9 14 0 426 (.c 9 15 0 426 (.c 9 19 0 426 (.c 9 20 256 170 (.c 9 21 170 0 (.l 9 0) .s) .s) .s) .s) .s) .s) .s) .s)) .s)) .s) (.c 9 8 16 431 (.c 9 5 0 431 (.c 9 9 0 431 (.c 9 10 0 431 (.c 9 13 4 427 (.c 9 14 0 427 (.c 9 15 0 427 (.c 9 18 1 426 (.c 9 19 0 426 (.c 9 20 256 170 (.c 9 21 170 0 (.l 9 0) .s) .s) .s) .s) (.c 9 18 1 426 (.c 9 15 0 426 (.c 9 19 0 426 (.c 9 20 256 170 (.c 9 21 170 0 (.l 9 0) .s) .s) .s) .s) .s)) (.c 9 18 1 426 (.c 9 14 0 426 (.c 9 15 0 426 (.c 9 19 0 426 (.c 9 20 256 170 (.c 9 21 170 0 (.l 9 0) .s) .s) .s) .s) .s) .s)) .s) (.c 9 13 4 427 (.c 9 10 0 427 (.c 9 14 0 427 (.c 9 15 0 427 (.c 9 18 1 426 (.c 9 19 0 426 (.c 9 20 256 170 (.c 9 21 170 0 (.l 9 0) .s) .s) .s) .s) (.c 9 18 1 426 (.c 9 15 0 426 (.c 9 19 0 426 (.c 9 20 256 170 (.c 9 21 170 0 (.l 9 0) .s) .s) .s) .s) .s)) (.c 9 18 1 426 (.c 9 14 0 426 (.c 9 15 0 426 (.c 9 19 0 426 (.c 9 20 256 170 (.c 9 21 170 0 (.l 9 0) .s) .s) .s) .s) .s) .s)) (.c 9 18 1 426 (.c 9 10 0 426 (.c 9 14 0 426 (.c 9 15 0 426 (.c 9 19 0 426 (.c 9 20 256 170 (.c 9 21 170 0 (.l 9 0) .s) .s) .s) .s) .s) .s) .s)) .s)) (.c 9 13 4 427 (.c 9 9 0 427 (.c 9 10 0 427 (.c 9 14 0 427 (.c 9 15 0 427 (.c 9 18 1 426 (.c 9 19 0 426 (.c 9 20 256 170 (.c 9 21 170 0 (.l 9 0) .s) .s) .s) .s) (.c 9 18 1 426 (.c 9 15 0 426 (.c 9 19 0 426 (.c 9 20 256 170 (.c 9 21 170 0 (.l 9 0) .s) .s) .s) .s) .s)) (.c 9 18 1 426 (.c 9 14 0 426 (.c 9 15 0 426 (.c 9 19 0 426 (.c 9 20 256 170 (.c 9 21 170 0 (.l 9 0) .s) .s) .s) .s) .s) .s)) (.c 9 18 1 426 (.c 9 10 0 426 (.c 9 14 0 426 (.c 9 15 0 426 (.c 9 19 0 426 (.c 9 20 256 170 (.c 9 21 170 0 (.l 9 0) .s) .s) .s) .s) .s) .s) .s)) (.c 9 18 1 426 (.c 9 9 0 426 (.c 9 10 0 426 (.c 9 14 0 426 (.c 9 15 0 426 (.c 9 19 0 426 (.c 9 20 256 170 (.c 9 21 170 0 (.l 9 0) .s) .s) .s) .s) .s) .s) .s) .s)) .s)) (.c 9 13 4 427 (.c 9 5 0 427 (.c 9 9 0 427 (.c 9 10 0 427 (.c 9 14 0 427 (.c 9 15 0 427 (.c 9 18 1 426 (.c 9 19 0 426 (.c 9 20 256 170 (.c 9 21 170 0 (.l 9 0) .s) .s) .s) .s) (.c 9 18 1 426 (.c 9 15 0 426 (.c 9 19 0 426 (.c 9 20 256 170 (.c 9 21 170 0 (.l 9 0) .s) .s) .s) .s) .s)) (.c 9 18 1 426 (.c 9 14 0 426 (.c 9 15 0 426 (.c 9 19 0 426 (.c 9 20 256 170 (.c 9 21 170 0 (.l 9 0) .s) .s) .s) .s) .s) .s)) (.c 9 18 1 426 (.c 9 10 0 426 (.c 9 14 0 426 (.c 9 15 0 426 (.c 9 19 0 426 (.c 9 20 256 170 (.c 9 21 170 0 (.l 9 0) .s) .s) .s) .s) .s) .s) .s)) (.c 9 18 1 426 (.c 9 9 0 426 (.c 9 10 0 426 (.c 9 14 0 426 (.c 9 15 0 426 (.c 9 19 0 426 (.c 9 20 256 170 (.c 9 21 170 0 (.l 9 0) .s) .s) .s) .s) .s) .s) .s) .s)) (.c 9 18 1 426 (.c 9 5 0 426 (.c 9 9 0 426 (.c 9 10 0 426 (.c 9 14 0 426 (.c 9 15 0 426 (.c 9 19 0 426 (.c 9 20 256 170 (.c 9 21 170 0 (.l 9 0) .s) .s) .s) .s) .s) .s) .s) .s) .s)) .s)) .s)) (.c 9 8 16 431 (.c 9 4 0 431 (.c 9 5 0 431 (.c 9 9 0 431 (.c 9 10 0 431 (.c 9 13 4 427 (.c 9 14 0 427 (.c 9 15 0 427 (.c 9 18 1 426 (.c 9 19 0 426 (.c 9 20 256 170 (.c 9 21 170 0 (.l 9 0) .s) .s) .s) .s) (.c 9 18 1 426 (.c 9 15 0 426 (.c 9 19 0 426 (.c 9 20 256 170 (.c 9 21 170 0 (.l 9 0) .s) .s) .s) .s) .s)) (.c 9 18 1 426 (.c 9 14 0 426 (.c 9 15 0 426 (.c 9 19 0 426 (.c 9 20 256 170 (.c 9 21 170 0 (.l 9 0) .s) .s) .s) .s) .s) .s)) .s) (.c 9 13 4 427 (.c 9 10 0 427 (.c 9 14 0 427 (.c 9 15 0 427 (.c 9 18 1 426 (.c 9 19 0 426 (.c 9 20 256 170 (.c 9 21 170 0 (.l 9 0) .s) .s) .s) .s) (.c 9 18 1 426 (.c 9 15 0 426 (.c 9 19 0 426 (.c 9 20 256 170 (.c 9 21 170 0 (.l 9 0) .s) .s) .s) .s) .s)) (.c 9 18 1 426 (.c 9 14 0 426 (.c 9 15 0 426 (.c 9 19 0 426 (.c 9 20 256 170 (.c 9 21 170 0 (.l 9 0) .s) .s) .s) .s) .s) .s)) (.c 9 18 1 426 (.c 9 10 0 426 (.c 9 14 0 426 (.c 9 15 0 426 (.c 9 19 0 426 (.c 9 20 256 170 (.c 9 21 170 0 (.l 9 0) .s) .s) .s) .s) .s) .s) .s)) .s)) (.c 9 13 4 427 (.c 9 9 0 427 (.c 9 10 0 427 (.c 9 14 0 427 (.c 9 15 0 427 (.c 9 18 1 426 (.c 9 19 0 426 (.c 9 20 256 170 (.c 9 21 170 0 (.l 9 0) .s) .s) .s) .s) (.c 9 18 1 426 (.c 9 15 0 426 (.c 9 19 0 426 (.c 9 20 256 170 (.c 9 21 170 0 (.l 9 0) .s) .s) .s) .s) .s)) (.c 9 18 1 426 (.c 9 14 0 426 (.c 9 15 0 426 (.c 9 19 0 426 (.c 9 20 256 170 (.c 9 21 170 0 (.l 9 0) .s) .s) .s) .s) .s) .s)) (.c 9 18 1 426 (.c 9 10 0 426 (.c 9 14 0 426 (.c 9 15 0 426 (.c 9 19 0 426 (.c 9 20 256 170 (.c 9 21 170 0 (.l 9 0) .s) .s) .s) .s) .s) .s) .s)) (.c 9 18 1 426 (.c 9 9 0 426 (.c 9 10 0 426 (.c 9 14 0 426 (.c 9 15 0 426 (.c 9 19 0 426 (.c 9 20 256 170 (.c 9 21 170 0 (.l 9 0) .s) .s) .s) .s) .s) .s) .s) .s)) .s)) (.c 9 13 4 427 (.c 9 5 0 427 (.c 9 9 0 427 (.c 9 10 0 427 (.c 9 14 0 427 (.c 9 15 0 427 (.c 9 18 1 426 (.c 9 19 0 426 (.c 9 20 256 170 (.c 9 21 170 0 (.l 9 0) .s) .s) .s) .s) (.c 9 18 1 426 (.c 9 15 0 426 (.c 9 19 0 426 (.c 9 20 256 170 (.c 9 21 170 0 (.l 9 0) .s) .s) .s) .s) .s)) (.c 9 18 1 426 (.c 9 14 0 426 (.c 9 15 0 426 (.c 9 19 0 426 (.c 9 20 256 170 (.c 9 21 170 0 (.l 9 0) .s) .s) .s) .s) .s) .s)) (.c 9 18 1 426 (.c 9 10 0 426 (.c 9 14 0 426 (.c 9 15 0 426 (.c 9 19 0 426 (.c 9 20 256 170 (.c 9 21 170 0 (.l 9 0) .s) .s) .s) .s) .s) .s) .s)) (.c 9 18 1 426 (.c 9 9 0 426 (.c 9 10 0 426 (.c 9 14 0 426 (.c 9 15 0 426 (.c 9 19 0 426 (.c 9 20 256 170 (.c 9 21 170 0 (.l 9 0) .s) .s) .s) .s) .s) .s) .s) .s)) (.c 9 18 1 426 (.c 9 5 0 426 (.c 9 9 0 426 (.c 9 10 0 426 (.c 9 14 0 426 (.c 9 15 0 426 (.c 9 19 0 426 (.c 9 20 256 170 (.c 9 21 170 0 (.l 9 0) .s) .s) .s) .s) .s) .s) .s) .s) .s)) .s)) (.c 9 13 4 427 (.c 9 4 0 427 (.c 9 5 0 427 (.c 9 9 0 427 (.c 9 10 0 427 (.c 9 14 0 427 (.c 9 15 0 427 (.c 9 18 1 426 (.c 9 19 0 426 (.c 9 20 256 170 (.c 9 21 170 0 (.l 9 0) .s) .s) .s) .s) (.c 9 18 1 426 (.c 9 15 0 426 (.c 9 19 0 426 (.c 9 20 256 170 (.c 9 21 170 0 (.l 9 0) .s) .s) .s) .s) .s)) (.c 9 18 1 426 (.c 9 14 0 426 (.c 9 15 0 426 (.c 9 19 0 426 (.c 9 20 256 170 (.c 9 21 170 0 (.l 9 0) .s) .s) .s) .s) .s) .s)) (.c 9 18 1 426 (.c 9 10 0 426 (.c 9 14 0 426 (.c 9 15 0 426 (.c 9 19 0 426 (.c 9 20 256 170 (.c 9 21 170 0 (.l 9 0) .s) .s) .s) .s) .s) .s) .s)) (.c 9 18 1 426 (.c 9 9 0 426 (.c 9 10 0 426 (.c 9 14 0 426 (.c 9 15 0 426 (.c 9 19 0 426 (.c 9 20 256 170 (.c 9 21 170 0 (.l 9 0) .s) .s) .s) .s) .s) .s) .s) .s)) (.c 9 18 1 426 (.c 9 5 0 426 (.c 9 9 0 426 (.c 9 10 0 426 (.c 9 14 0 426 (.c 9 15 0 426 (.c 9 19 0 426 (.c 9 20 256 170 (.c 9 21 170 0 (.l 9 0) .s) .s) .s) .s) .s) .s) .s) .s) .s)) (.c 9 18 1 426 (.c 9 4 0 426 (.c 9 5 0 426 (.c 9 9 0 426 (.c 9 10 0 426 (.c 9 14 0 426 (.c 9 15 0 426 (.c 9 19 0 426 (.c 9 20 256 170 (.c 9 21 170 0 (.l 9 0) .s) .s) .s) .s) .s) .s) .s) .s) .s) .s)) .s)) .s)) .s) ?_
    simp
    try intros
    repeat' first
     |(refine ⟨by omega,?_⟩)
     |(refine ap eok (aD _) rE ?_;simp;try intros)
     |(refine ap eok (aD _) rE ?_;simp;try intros)
     |(refine ap eok (aD _) rE ?_;simp;try intros)
     |(refine ap eok (kp o (by omega)) (by simp) ?_;simp;try intros)
     |(rw [Trc];refine ⟨?_,?_⟩<;>(try simp)<;>try intros)
    all_goals
     simpa using hT
   rintro ⟨⟩
   simp
  ·simp
   refine ap eok (aD n) (by simp) ?_;simp;refine ⟨by omega,by omega,?_⟩;simp [am,ag,bX,a8,gl,Lib.join_one]
  ·simp [am,ag,bX,a8,gl,Lib.join_one]
  ·simp
   refine ap eok (aD n) (by simp) ?_;simp;refine ⟨by omega,by omega,?_⟩;simp [am,ag,bX,a8,gl,Lib.join_one]
 ·simp [d]
  refine aa.pure (bb c.client 0 1000000000) (by simp) ?_;by_cases c4:0<=c.client/\c.client<=1000000000
  rotate_left
  ·simp [c4,hno (λh=>c4 h.2.2.1)]
  simp [c4];refine aa.pure (bb c.seq 0 1000000000) (by simp) ?_;by_cases c5:0<=c.seq/\c.seq<=1000000000
  rotate_left
  ·simp [c5,hno (λh=>c5 h.2.2.2.1)]
  simp [c5];refine aa.pure (bb c.n 0 1000000000) (by simp) ?_;by_cases c6:0<=c.n/\c.n<=1000000000
  rotate_left
  ·simp [c6,hno (λh=>c6 h.2.2.2.2.1)]
  simp [c6];have ok:cOk c:=⟨c1,c2,c4,c5,c6,λh=>absurd h d⟩;rw [hyes ok];refine aa.pure (fo c.kind) (by simp) ?_;simp;refine aa.pure (aj c.kind) (by simp) ?_;simp [d];obtain ⟨kind,doc,client,seq,n,o,text⟩:=c;simp only at *;have hc:kind=6\/kind=7\/kind=8:=by have:=c1.1;unfold ag at d;simp only at this;omega
  rcases hc with rfl|rfl|rfl
  ·obtain ⟨T,hT⟩:∃ T,Lib.join (am ⟨6,doc,client,seq,n,o,text⟩) [32]=T:=⟨_,rfl⟩
   rw [hT];simp [am,ag,bX,a8,gl,Lib.join_one] at hT;simp;refine iQ (λx:Unit=>[(3,.v (.string (bs T)))]) (λx=>[]) [1] ?_ ?_
   ·refine drw eok mix [0,1,2,6,7] [3,4,5,8,9,10,11] (.c 5 3 4 27 (.c 5 4 0 27 (.c 5 5 0 27 (.c 5 8 1 26 (.c 5 9 0 26 (.c 5 10 16 10 (.c 5 11 10 0 (.l 5 0) .s) .s) .s) .s) (.c 5 8 1 26 (.c 5 5 0 26 (.c 5 9 0 26 (.c 5 10 16 10 (.c 5 11 10 0 (.l 5 0) .s) .s) .s) .s) .s)) (.c 5 8 1 26 (.c 5 4 0 26 (.c 5 5 0 26 (.c 5 9 0 26 (.c 5 10 16 10 (.c 5 11 10 0 (.l 5 0) .s) .s) .s) .s) .s) .s)) .s) ?_
    simp
    try intros
    repeat' first
     |(refine ⟨by omega,?_⟩)
     |(refine ap eok (aD _) rE ?_;simp;try intros)
     |(refine ap eok (aD _) rE ?_;simp;try intros)
     |(rw [Trc];refine ⟨?_,?_⟩<;>(try simp)<;>try intros)
    all_goals
     simpa using hT
   rintro ⟨⟩
   simp
  ·simp
   refine ap eok (aD client) (by simp) ?_;simp;refine ⟨by omega,by omega,?_⟩;simp [am,ag,bX,a8,gl,Lib.join_one]
  ·simp [am,ag,bX,a8,gl,Lib.join_one]
end Go.Proofs.YthckkpphnmmfdaaGreatDoor
namespace Go.Proofs.YthckkpphnmmfdaaGreatDoor
open Go.AM
set_option maxRecDepth 20000
set_option maxHeartbeats 6400000
attribute [local simp] cN bT aC bS bR bZ
theorem gY (k:Int):ak Tryz.prog 33 [.c (vi k)] (.tup [.c (vb (bX k)) 1,.c (vb (k=2)) 1,.c (vb (a8 k)) 1]):=by
 refine pci al Tryz.func33 (λw0 base=>?_);by_cases k2:k=2
 ·subst k2
  simp [bX,a8]
 by_cases k6:k=6
 ·subst k6
  simp [bX,a8]
 by_cases k7:k=7
 ·subst k7
  simp [bX,a8]
 by_cases k3:k=3
 ·subst k3
  simp [bX,a8]
 by_cases k5:k=5
 ·subst k5
  simp [bX,a8]
 simp [bX,a8,k2,k3,k5,k6,k7]
theorem bH (W:List (List UInt8)) (hl:W.length<=2 ^ 20) (hw:∀ w∈W,w.length<=2 ^ 24):ak Tryz.prog 38 [.c (.s (W.map wR))] (.one (.c (vs (Lib.join W [32])) 1)):=by
 refine pci al Tryz.func38 (λw0 base=>?_);simp
 have hnx:∀ {i},(h:i<W.length)->Lib.join (W.take (i+1)) [32]=if i=0 then W[i] else Lib.join (W.take i) [32]++32::W[i]:=λ{i} h=>by
  have:=eC h id 32
  rwa [List.map_id] at this
 have hj:∀ i,(Lib.join (W.take i) [32]).length<=(2 ^ 24+1)*W.length:=λi=>by
  have:=dM (i:=i) id 32 hw
  rwa [List.map_id] at this
 refine bk eok (λi:Nat=>i<=W.length) (λi=>⟨22,0,[(8,.v (.int .i64 i)),(7,.v (.int .i64 W.length)),(6,.ro (W.map wR)),(3,.v (.string (bs (Lib.join (W.take i) [32]))))],[]⟩) (λi=>W.length - i) 0 (by simp) (by simp [Lib.join_nil]) (λi hi=>Ent.refl ?_);by_cases hlt:i<W.length
 rotate_left
 ·have e:i=W.length:=by omega
  subst e;simp
 have hn:=hnx hlt;have hji:=hj i;have hwi:=hw W[i] (List.getElem_mem hlt);by_cases hi0:i=0
 ·subst hi0
  simp [hlt,wR,Lib.join_nil];rw [if_pos rfl] at hn;refine ⟨by omega,Ent.refl ⟨1,by omega,by omega,?_⟩⟩;simp [hn];rfl
 ·have hi1:0<i:=by omega
  rw [if_neg hi0] at hn;generalize Lib.join (W.take i) [32]=S at hn hji ⊢;simp [hlt,wR,hi1];refine ⟨by omega,by omega,Ent.refl ⟨i+1,by omega,by omega,?_⟩⟩;simp [hn];exact aA (by omega)
theorem fw (c:Call) (hd:c.doc.size<=8) (ht:c.text.length<=200):(am c).length<=2 ^ 20/\∀ w∈am c,w.length<=2 ^ 24:=by
 have h1:=aF c.client;have h2:=aF c.seq;have h3:=aF c.n;have h4:=fM c.o;have h5:=ed c.text;have h6:=fU c.kind;have h7:c.doc.data.toList.length<=8:=by have:=aC c.doc.data.toList;rw [kL] at this;omega
 unfold am
 constructor
 ·simp only [List.length_cons,List.length_append]
  (repeat' split)<;>simp
 ·intro w hw
  simp only [List.mem_cons,List.mem_append] at hw;rcases hw with rfl|hw|hw|hw|hw|hw|hw
  ·omega
  all_goals
   split at hw
   ·rw [List.mem_singleton] at hw
    subst hw;omega
   ·exact absurd hw List.not_mem_nil
theorem g0 (c:Call) (hl:bK c<=2 ^ 36):ak Tryz.prog 8 [.agg c.row] (.one (.c (vs (bp c)) 1)):=by
 refine pci al Tryz.func8 (λw0 base=>?_);have hno:¬ cOk c->bp c=[]:=λh=>by unfold bp;rw [if_neg h]
 have hyes:cOk c->bp c=Lib.join (am c) [32]:=λh=>by unfold bp;rw [if_pos h]
 generalize bp c=T at hno hyes ⊢;have hl0:=hl;unfold bK at hl;have h1:=aF c.client;have h2:=aF c.seq;have h3:=aF c.n;have h4:=fM c.o;simp [Call.row];intro b;refine aa.pure (j6 c hl0) (by simp [Call.row]) ?_;by_cases c1:aM c
 rotate_left
 ·simp [c1,hno (λh=>c1 h.1)]
 have h5:(aN c.text).length<=2201:=by
  have:=ed c.text;have:=c1.2.2.2.1.1;omega
 simp [c1];refine aa.pure (eO c.o (by omega)) (by simp) ?_;by_cases c2:cg c.o
 rotate_left
 ·simp [c2,hno (λh=>c2 h.2.1)]
 simp [c2];refine aa.pure (co c.client 0 1000000000) (by simp) ?_;by_cases c4:0<=c.client/\c.client<=1000000000
 rotate_left
 ·simp [c4,hno (λh=>c4 h.2.2.1)]
 simp [c4];refine aa.pure (co c.seq 0 1000000000) (by simp) ?_;by_cases c5:0<=c.seq/\c.seq<=1000000000
 rotate_left
 ·simp [c5,hno (λh=>c5 h.2.2.2.1)]
 simp [c5];refine aa.pure (co c.n 0 1000000000) (by simp) ?_;by_cases c6:0<=c.n/\c.n<=1000000000
 rotate_left
 ·simp [c6,hno (λh=>c6 h.2.2.2.2.1)]
 simp [c6];refine aa.pure (df c.kind) (by simp) ?_;have hcl:=fU c.kind;have hdoc:=c1.2.1;by_cases d:ag c.kind
 ·simp [d]
  refine aa.pure (j5 c.doc (by omega)) (by simp) ?_;by_cases nm:cD c.doc
  rotate_left
  ·simp [nm,hno (λh=>nm (h.2.2.2.2.2 d))]
  simp [nm];have ok:cOk c:=⟨c1,c2,c4,c5,c6,λ_=>nm⟩;rw [hyes ok];refine aa.pure (gY c.kind) (by simp) ?_;simp;refine aa.pure (fb c.kind) (by simp) ?_;simp;intro b64;refine aa.pure (df c.kind) (by simp) ?_;simp [d];obtain ⟨kind,doc,client,seq,n,o,text⟩:=c;simp only at *;obtain ⟨D,rfl⟩:∃ D,doc=bs D:=⟨doc.data.toList,(kL doc).symm⟩;rw [aC] at hdoc;have hc:kind=1\/kind=2\/kind=3\/kind=4\/kind=5:=by unfold ag at d;omega
  have hcw:=fw ⟨kind,bs D,client,seq,n,o,text⟩ (by simp only [aC];exact hdoc) c1.2.2.2.1.1;intro b2 H2;rcases hc with rfl|rfl|rfl|rfl|rfl
  ·simp [bX,a8]
   refine aa.pure (cV text (by omega)) (by simp) ?_;simp;intro b3 H3;refine aa.pure (bH (am ⟨1,bs D,client,seq,n,o,text⟩) hcw.1 hcw.2) (by simp [am,ag,bX,a8,wR]) ?_;simp
  ·simp [bX,a8]
   refine aa.pure (ax client) (by simp) ?_;simp;intro b3 H3;refine aa.pure (ax seq) (by simp) ?_;simp;intro b4 H4;refine aa.pure (ax n) (by simp) ?_;simp;intro b5 H5;refine aa.pure (lm o (by omega)) (by simp) ?_;simp;intro b6 H6;refine aa.pure (bH (am ⟨2,bs D,client,seq,n,o,text⟩) hcw.1 hcw.2) (by simp [am,ag,bX,a8,wR]) ?_;simp
  ·simp [bX,a8]
   refine aa.pure (ax n) (by simp) ?_;simp;intro b3 H3;refine aa.pure (bH (am ⟨3,bs D,client,seq,n,o,text⟩) hcw.1 hcw.2) (by simp [am,ag,bX,a8,wR]) ?_;simp
  ·simp [bX,a8]
   refine aa.pure (bH (am ⟨4,bs D,client,seq,n,o,text⟩) hcw.1 hcw.2) (by simp [am,ag,bX,a8,wR]) ?_;simp
  ·simp [bX,a8]
   refine aa.pure (ax n) (by simp) ?_;simp;intro b3 H3;refine aa.pure (bH (am ⟨5,bs D,client,seq,n,o,text⟩) hcw.1 hcw.2) (by simp [am,ag,bX,a8,wR]) ?_;simp
 ·simp [d]
  have ok:cOk c:=⟨c1,c2,c4,c5,c6,λh=>absurd h d⟩;rw [hyes ok];refine aa.pure (gY c.kind) (by simp) ?_;simp;refine aa.pure (fb c.kind) (by simp) ?_;simp;intro b64;refine aa.pure (df c.kind) (by simp) ?_;simp [d];obtain ⟨kind,doc,client,seq,n,o,text⟩:=c;simp only at *;have hcw:=fw ⟨kind,doc,client,seq,n,o,text⟩ hdoc c1.2.2.2.1.1;have hc:kind=6\/kind=7\/kind=8:=by have:=c1.1;unfold ag at d;simp only at this;omega
  rcases hc with rfl|rfl|rfl
  ·simp [bX,a8]
   refine aa.pure (ax client) (by simp) ?_;simp;intro b3 H3;refine aa.pure (ax n) (by simp) ?_;simp;intro b4 H4;refine aa.pure (bH (am ⟨6,doc,client,seq,n,o,text⟩) hcw.1 hcw.2) (by simp [am,ag,bX,a8,wR]) ?_;simp
  ·simp [bX,a8]
   refine aa.pure (ax client) (by simp) ?_;simp;intro b3 H3;refine aa.pure (bH (am ⟨7,doc,client,seq,n,o,text⟩) hcw.1 hcw.2) (by simp [am,ag,bX,a8,wR]) ?_;simp
  ·simp [bX,a8]
   refine aa.pure (bH (am ⟨8,doc,client,seq,n,o,text⟩) hcw.1 hcw.2) (by simp [am,ag,bX,a8,wR]) ?_;simp
end Go.Proofs.YthckkpphnmmfdaaGreatDoor
namespace Go.Proofs.YthckkpphnmmfdaaGreatDoor
open Go.AM
set_option maxRecDepth 20000
set_option maxHeartbeats 6400000
attribute [local simp] cN bT aC bS bR bZ
end Go.Proofs.YthckkpphnmmfdaaGreatDoor
namespace Go.Proofs.YthckkpphnmmfdaaGreatDoor
open Go.AM
set_option maxRecDepth 20000
set_option maxHeartbeats 6400000
attribute [local simp] cN bT aC bS bR bZ
end Go.Proofs.YthckkpphnmmfdaaGreatDoor
namespace Go.Proofs.YthckkpphnmmfdaaGreatDoor
open Go.AM Go.RowKit
set_option maxRecDepth 100000
set_option maxHeartbeats 4000000
open Go.AM
set_option maxRecDepth 20000
def Event.none:Event:=⟨0,0,0,[]⟩
set_option maxHeartbeats 6400000
attribute [local simp] cN bT aC bS bR bZ
end Go.Proofs.YthckkpphnmmfdaaGreatDoor
namespace Go.Proofs.YthckkpphnmmfdaaGreatDoor
open Go.AM
set_option maxRecDepth 20000
set_option maxHeartbeats 6400000
attribute [local simp] cN bT aC bS bR bZ
end Go.Proofs.YthckkpphnmmfdaaGreatDoor
namespace Go.Proofs.YthckkpphnmmfdaaGreatDoor
open Go.AM
set_option maxRecDepth 20000
set_option maxHeartbeats 6400000
attribute [local simp] cN bT aC bS bR bZ
end Go.Proofs.YthckkpphnmmfdaaGreatDoor
namespace Go.Proofs.YthckkpphnmmfdaaGreatDoor
open Go.AM
set_option maxRecDepth 20000
set_option maxHeartbeats 6400000
attribute [local simp] cN bT aC bS bR bZ
end Go.Proofs.YthckkpphnmmfdaaGreatDoor
namespace Go.Proofs.YthckkpphnmmfdaaGreatDoor
open Go.AM
set_option maxRecDepth 20000
noncomputable def fT (c:Call):ByteArray:=bs (bp c)
theorem gZ (c:Call) (_:c.fits) (n:bK c<=2 ^ 20):ak Tryz.prog 8 [.agg c.row] (.one (.c (.v (.string (fT c))) 1)):=g0 c (by omega)
theorem il (c:Call) (_:c.fits) (n:bK c<=2 ^ 20):ba Tryz.prog LT 10 [.agg c.row] (.one (.c (.v (.string (fT c))) 1)):=ik c (by omega)
open Go.AM Go.ChangeShapes Go.WideShapes Go.ChangeAt Go.RowKit
theorem qR {H:Type} {enc:TypeId×Value->H} {a:Assume} {C:Checked} {os:Os} {f:FuncId} {fn:Func} {s:ChangeSpec} {conds:List PathCond} {apart fresh handsOn again:Bool} {X:World->Array Value->Prop}
 (hX:∀ (w w':World) (args:Array Value),w.heap=w'.heap->X w args->X w' args)
 (own:ownKnob C.prog.godebug=none) (started:os.Started) (noInit:C.prog.inits.idxOf? f=none) (hfn:C.prog.funcs[f]? = some fn)
 (witness:∃ (w:World) (tape:Tape) (i:Input),w.os=os /\ (w.forCall tape i).Shaped C.prog /\ i.vars=[] /\ Input.okWide C.prog (w.forCall tape i) .any w.heap.size f i /\
  ((s.pre enc C.prog fn conds apart (w.forCall tape i).memory i.args/\X (w.forCall tape i).memory i.args)/\sizedMet enc C.prog fn (OpenSpec.ofChange s) apart (w.forCall tape i).memory i.args)/\a.holds C.prog (lone (Frame.enter C.prog f i.args .normal) [] (w.forCall tape i)))
 (contract:∀ (W:World) (base:Nat) (args:Array Value) (ds gs:List (DataW H)) (before:List MemPlace),
  (∀ (j:Nat) t v,fn.params[j]? = some t -> args[j]? = some v -> Value.okWide C.prog W .any base t v) ->
  DataW.Whole enc C.prog fn.params.toList s.vars apart W args.toList ds gs before -> X W args -> W.ShapedOpen C.prog ->
  Calls C.prog f args W λe W'=>∃ v,e=.returned v/\s.post enc C.prog fn apart fresh handsOn again W args v W') :
 ReturnsInHanded a C os f .any (λw args=>(s.pre enc C.prog fn conds apart w args/\X w args)/\sizedMet enc C.prog fn (OpenSpec.ofChange s) apart w args) (s.post enc C.prog fn apart fresh handsOn again):=by
 refine returnsInHanded_of_calls own started noInit witness ?_;intro w tape i _ hsh _ hok hpre hholds;obtain ⟨_,_,_,fn',hfn',_,_,_,_,hval⟩:=hok;have e:fn'=fn:=Option.some.inj (hfn'.symm.trans hfn);subst e;obtain ⟨⟨⟨ds,gs,before,hw,hc⟩,hx⟩,hz⟩:=hpre;have hw':=DataW.Whole.of_heap (w':=w.forCall tape i) (by rfl) hw;refine (contract (w.forCall tape i) w.heap.size i.args ds gs before hval hw' (hX _ _ _ (by rfl) hx) hsh).mono λe W' ⟨v,he,hp⟩=>?_
 subst he;exact ChangeSpec.post_blind hp
theorem tp : Tryz.prog.globalNamed "internal/strconv.uint64pow10" = some 0 := by kernel_rfl
theorem to:(Tryz.prog.globals[0]?).map (·.type)=some 263:=by kernel_rfl
theorem zR {a b : String × DataW Unit} {r : List (String × DataW Unit)} {W : World} (h : laidMet Tryz.prog (a :: b :: ("internal/strconv.uint64pow10", Lib.tabData .u64 Lib.pow10Tab) :: r) W) (hsh : W.ShapedOpen Tryz.prog) (he : sP W) : LT W :=
 ⟨Lib.tabIs_of_head (t:=263) (e:=231) (n:=20) tp to (by kernel_rfl) (by kernel_rfl) (by kernel_rfl) (by kernel_rfl) h.tail.tail,cell_of_shapedOpen_int (zero:=#[.int .i64 0]) (t:=3) hsh (of_decide_eq_true (by kernel_rfl)) (by kernel_rfl) rfl (by kernel_rfl) (by kernel_rfl) Tryz.underlying3,he⟩
theorem tQ {l:List (String×DataW Unit)} {os:Os} (args:Array Value) (hp:(l.all λx=>x.2.handleName?.isNone)=true)
 (hf:(World.holding Tryz.prog os ⟨#[],#[],[]⟩).layFits Tryz.prog l []=true) (hi:(World.holding Tryz.prog os ⟨#[],#[],[]⟩).layIfaces Tryz.prog l (World.laidAll Tryz.prog os l)=true) :
 laidMetH Tryz.prog l ((World.laidAll Tryz.prog os l).forCall (λ_ _=>0) ⟨#[],args,[]⟩).memory:=by
 rw [MakeChecks.laidMetH_plain _ _ _ hp];exact laidMet_laidAll args hf hi
end Go.Proofs.YthckkpphnmmfdaaGreatDoor
