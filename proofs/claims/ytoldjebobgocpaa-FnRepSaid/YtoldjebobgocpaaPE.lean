import Derived.Test.YtoldjebobgocpaaPD
import Derived.Test.YtoldjebobgocpaaMF
namespace Go.Proofs.Ytoldjebobgocpaa
open Go.AM
set_option maxRecDepth 20000
theorem implSize_c (p : Part) (h : partOk p) : PureC Try.prog 52 [.agg p.row] (.one (.c (vi (psz p)) 1)):=by
 refine PureC.intro' tt_ok Try.func52 (by kernel_rfl) rfl rfl rfl (Nat.le_of_ble_eq_true rfl) (fun w0 base=>?_);have hp:=psz_int h;have e : Go.IntKind.i64.wrap (p.n + (p.signs.length : Int)) = p.n + p.signs.length:=Go.IntWalk.i64_in _ (by omega);rw [hp.1];simp [Part.row,e]
def hdV : List Part→AV
 | []=>.agg [.v (.int .i64 0),.v (.int .i64 0),.nil]
 | p :: _=>.agg [.v (.int .i64 p.kind),.v (.int .i64 p.n),.ro (p.signs.map intR)]
theorem next_call {w0 : World} {bF bG : Nat→Prop} {bl : Bool} {st : ASt} {dst : Option Nat} {K : ASt→Prop} {kx b kb : Nat} {l : List Part} (hk : kx + 16 < kb) (hs : ∀ p∈l,partOk p)
 (g : st.h.get kx = .vars b 94 [.ro (l.map Part.row)])
 (hK : ∀ h',AH.get h' kx = .vars b 94 [.ro ((nxt l).map Part.row)]→(∀ q,q≠kx→q < kb→AH.get h' q = st.h.get q)→aPut ⟨st.n,st.kb,st.t,h'⟩ dst (hdV (nxt l)) K) :
 ACall ⟨Try.prog,tt,w0,⟨bF,bG,bl,fun _=>True⟩⟩ 50 [.p kx b 0] st dst K:=by
 refine ACall.inline tt_ok Try.func50 (by kernel_rfl) rfl rfl rfl (Nat.le_of_ble_eq_true rfl) kb (fun w1 F=>?_);simp;intro b2;have hkk : ¬ kx = kb + 32:=by omega
 have hkk2 : ¬ kb + 32 = kx:=by omega
 refine LoopT.introW eok (fun m : List Part=>nxt m = nxt l∧∀ p∈m,p∈l) (fun m=>⟨40,kb,[(0,.p kx b 0),(2,.p (kb + 32) b2 0)],(kx,.vars b 94 [.ro (m.map Part.row)]) :: (kb + 32,.vars b2 83 [.v (.int .i64 0),.v (.int .i64 0),.nil]) :: st.h⟩) (fun m=>m.length) l ⟨rfl,fun _ h=>h⟩ (by simp [hkk,g]) (fun m hm=>?_)
 ·cases m with
  | nil=>
    have hn : nxt l = []:=by rw [← hm.1];rfl
    rw [hn] at hK;simp [hkk2];refine hK _ (by simp [hkk]) (fun q q1 q2=>?_)
    repeat (first | exact rfl | refine (get_miss (by omega)).trans ?_)
  | cons p m=>
    have hp:=hs p (hm.2 p (List.mem_cons_self ..));simp [Part.row];refine ACall.pure (implSize_c p hp) (by simp [Part.row]) ?_;by_cases hz : psz p = 0
    ·simp [hz,hkk,hkk2]
     refine ⟨m,⟨by rw [← hm.1];simp [nxt,hz],fun q hq=>hm.2 q (List.mem_cons_of_mem _ hq)⟩,by omega,?_⟩;simp [cut];exact List.take_of_length_le (by simp)
    ·have hn : nxt l = p :: m:=by rw [← hm.1];simp [nxt,hz]
     rw [hn] at hK;have hm0 : ¬ (m.length : Int) + 1 = 0:=by omega
     simp [hz,hkk2,hm0];refine hK _ ?_ (fun q q1 q2=>?_)
     ·simp [hkk,Part.row]
     repeat (first | exact rfl | refine (get_miss (by omega)).trans ?_)
theorem cut_take (s : List Int) {n : Nat} (_h : n≤s.length) : cut (s.map intR) 0 n = (s.take n).map intR:=by
 unfold cut
 split
 ·rename_i h2
  rw [List.take_of_length_le (by simp at h2;omega)]
 ·simp [List.map_take]
theorem cut_drop (s : List Int) {n : Nat} : cut (s.map intR) n (s.length - n) = (s.drop n).map intR:=by
 unfold cut
 split
 ·rename_i h2
  rw [h2.1];simp
 ·rw [List.take_of_length_le (by simp),List.map_drop]
theorem take_call {w0 : World} {bF bG : Nat→Prop} {bl : Bool} {st : ASt} {dst : Option Nat} {K : ASt→Prop} {kx b n : Nat} {p : Part} {l : List Part} (hk : kx < 15000) (hp : partOk p) (hn : n≤psz p) (hl : l.length≤2 ^ 20)
 (g : st.h.get kx = .vars b 94 [.ro ((p :: l).map Part.row)])
 (hK : ∀ h',AH.get h' kx = .vars b 94 [.ro ((pleft p n :: l).map Part.row)]→(∀ q,q≠kx→q < 15000→AH.get h' q = st.h.get q)→aPut ⟨st.n,st.kb,st.t,h'⟩ dst (hdV [pcut p n]) K) :
 ACall ⟨Try.prog,tt,w0,⟨bF,bG,bl,fun _=>True⟩⟩ 53 [.p kx b 0,.v (.int .i64 n)] st dst K:=by
 refine ACall.inlineE tt_ok Try.func53 (by kernel_rfl) rfl rfl rfl (Nat.le_of_ble_eq_true rfl) 20000 (fun w1 F=>?_);have hps:=psz_int hp;have hb:=hp.bounds;have k0 : ¬ kx = 20064:=by omega
 have k1 : ¬ kx = 20080:=by omega
 have k2 : ¬ kx = 20096:=by omega
 have k3 : ¬ kx = 20112:=by omega
 have k4 : ¬ kx = 20608:=by omega
 have j0 : ¬ 20064 = kx:=by omega
 have j1 : ¬ 20080 = kx:=by omega
 have j2 : ¬ 20096 = kx:=by omega
 have j3 : ¬ 20112 = kx:=by omega
 have j4 : ¬ 20608 = kx:=by omega
 simp [g,Part.row,k0];intro b4 b5
 refine DrawT.cut (fun x : Nat × Nat=>⟨48,20000,[(0,.p kx b 0),(1,.v (.int .i64 n)),(4,.p 20064 b4 0),(5,.p 20080 b5 0),(6,.p 20096 x.1 0),(7,.p 20112 x.2 0)],
  (20096,.vars x.1 83 [.v (.int .i64 p.kind),.v (.int .i64 p.n),.ro (p.signs.map intR)]) :: (20112,.vars x.2 83 [.v (.int .i64 p.kind),.v (.int .i64 p.n),.ro (p.signs.map intR)]) :: (20080,.vars b5 83 [.v (.int .i64 p.kind),.v (.int .i64 p.n),.ro (p.signs.map intR)]) :: (20064,.vars b4 83 [.v (.int .i64 0),.v (.int .i64 0),.nil]) :: st.h⟩) ?_ ?_
 ·refine DrawT.introP2 eok mix [0,1] 2 3 [4,5] [([false,false],[true,true]),([false,false],[true,true]),([false,true],[true,false]),([true,false],[false,false])] [false,false] [([false,false],[true,true]),([false,false],[true,true]),([false,true],[true,false]),([true,false],[false,false])] [false,false] (by kernel_rfl) ?_
  simp
  trace_state
 rintro ⟨b6,b7⟩
 simp;by_cases hk2 : p.kind = 2
 ·simp [hk2]
  refine DrawT.introP eok mix [0,1,2,3,4,5,6,7,8,10] [9,11] [([false,true,false,false,false,false,true,true,true,true],[true,false,true,true,true,true,false,false,false,false]),([true,false,true,true,true,true,false,false,false,false],[false,false,false,false,false,false,false,false,false,false])] [false,false,false,false,false,false,false,false,false,false] (by kernel_rfl) ?_;have hns : n≤p.signs.length:=by have:=hb.2.2.2.2.1 hk2;omega
  simp [hns];refine DrawT.introP eok mix [0,1,3,4,5,6,7,9,10] [2,8,11] [([false,false,false,false,false,false,false,true,false],[true,true,true,true,true,true,true,false,true]),([false,false,true,false,false,false,false,false,false],[true,true,false,true,true,true,true,false,true]),([true,false,false,true,true,true,true,false,true],[false,true,false,false,false,false,false,false,false])] [false,true,false,false,false,false,false,false,false] (by kernel_rfl) ?_
  have ct : cut ([vi p.kind,vi p.n,CD.s (p.signs.map intR)] :: l.map Part.row) 1 l.length = l.map Part.row:=by
   simp [cut];exact List.take_of_length_le (by simp)
  have hv : hdV [pcut p n] = .agg [.v (.int .i64 2),.v (.int .i64 p.n),.ro ((p.signs.map intR).take n)]:=by simp [hdV,pcut,hk2,List.map_take]
  rw [hv] at hK;simp [g,Part.row,k0,k1,k2,k3,k4,j0,j3,ct,cut_take p.signs hns,cut_drop p.signs];intro b8;refine ⟨by omega,fun H=>⟨_,HEnt.frz (kx:=kx) (b:=b) (T:=94) (cells:=[.sl 20608 H 3 0 (1 + l.length)]) (j:=0) (k:=20608) (sz:=3) (off:=0) (len:=1 + l.length) (H:=H) (rows:=(pleft p n).row :: l.map Part.row) (own:=false) ?_ rfl ?_ (by simp;omega),?_⟩⟩
  ·simp [k0]
  ·simp [j4,Part.row,pleft,hk2]
  ·refine hK _ ?_ (fun q q1 q2=>?_)
   ·simp [cut,Nat.add_comm]
   ·repeat (first | exact rfl | refine (get_miss (by omega)).trans ?_)
 ·simp [hk2]
  refine DrawT.introP eok mix [0,1,2,3,4,5,7] [6,8] [([false,true,false,false,false,false,true],[true,false,true,true,true,true,false]),([true,false,true,true,true,true,false],[false,false,false,false,false,false,false])] [false,false,false,false,false,false,false] (by kernel_rfl) ?_;have e : Go.IntKind.i64.wrap (p.n - (n : Int)) = p.n - n:=Go.IntWalk.i64_in _ (by omega);simp [e]
  refine DrawT.introP eok mix [0,1,3,4,5,6,7,9,10] [2,8,11] [([false,false,false,false,false,false,false,true,false],[true,true,true,true,true,true,true,false,true]),([false,false,true,false,false,false,false,false,false],[true,true,false,true,true,true,true,false,true]),([true,false,false,true,true,true,true,false,true],[false,true,false,false,false,false,false,false,false])] [false,true,false,false,false,false,false,false,false] (by kernel_rfl) ?_
  have ct : cut ([vi p.kind,vi p.n,CD.s (p.signs.map intR)] :: l.map Part.row) 1 l.length = l.map Part.row:=by
   simp [cut];exact List.take_of_length_le (by simp)
  have hv : hdV [pcut p n] = .agg [.v (.int .i64 p.kind),.v (.int .i64 n),.ro (p.signs.map intR)]:=by simp [hdV,pcut,hk2]
  rw [hv] at hK;simp [g,Part.row,k0,k1,k2,k3,k4,j0,j3,ct];intro b8;refine ⟨by omega,fun H=>⟨_,HEnt.frz (kx:=kx) (b:=b) (T:=94) (cells:=[.sl 20608 H 3 0 (1 + l.length)]) (j:=0) (k:=20608) (sz:=3) (off:=0) (len:=1 + l.length) (H:=H) (rows:=(pleft p n).row :: l.map Part.row) (own:=false) ?_ rfl ?_ (by simp;omega),?_⟩⟩
  ·simp [k0]
  ·simp [j4,Part.row,pleft,hk2]
  ·refine hK _ ?_ (fun q q1 q2=>?_)
   ·simp [cut,Nat.add_comm]
   ·repeat (first | exact rfl | refine (get_miss (by omega)).trans ?_)
theorem whole_call {w0 : World} {bF bG : Nat→Prop} {bl : Bool} {st : ASt} {dst : Option Nat} {K : ASt→Prop} {kx b : Nat} {p : Part} {l : List Part} (hk : kx < 14000) (hp : partOk p) (hl : l.length≤2 ^ 20)
 (g : st.h.get kx = .vars b 94 [.ro ((p :: l).map Part.row)])
 (hK : ∀ h',AH.get h' kx = .vars b 94 [.ro ((pleft p (psz p) :: l).map Part.row)]→(∀ q,q≠kx→q < 14000→AH.get h' q = st.h.get q)→aPut ⟨st.n,st.kb,st.t,h'⟩ dst (hdV [p]) K) :
 ACall ⟨Try.prog,tt,w0,⟨bF,bG,bl,fun _=>True⟩⟩ 51 [.p kx b 0] st dst K:=by
 refine ACall.inline tt_ok Try.func51 (by kernel_rfl) rfl rfl rfl (Nat.le_of_ble_eq_true rfl) 14000 (fun w1 F=>?_);have k0 : ¬ kx = 14032:=by omega
 have j0 : ¬ 14032 = kx:=by omega
 simp [g,Part.row,k0];intro b2;refine ACall.pure (implSize_c p hp) (by simp [Part.row]) ?_;simp;refine take_call (n:=psz p) (by omega) hp (Nat.le_refl _) hl (by simp [k0,g]) (fun h' g1 g2=>?_);have e:=g2 14032 j0 (by omega);simp at e;simp [hdV,e];rw [pcut_whole hp];refine hK _ (by simp [g1,k0]) (fun q q1 q2=>?_);have hq : ¬ q = 14032:=by omega
 simp [hq,g2 q q1 (by omega)]
structure RS (kx ky bx by_ : Nat) (h0 h : AH) (X Y : List Part) : Prop where
 ne : kx≠ky
 lx : kx < 14000 - 16
 ly : ky < 14000 - 16
 gx : AH.get h kx = .vars bx 94 [.ro (X.map Part.row)]
 gy : AH.get h ky = .vars by_ 94 [.ro (Y.map Part.row)]
 o : ∀ q,q≠kx→q≠ky→q < 14000→AH.get h q = AH.get h0 q
theorem RS.swap {kx ky bx by_ : Nat} {h0 h : AH} {X Y : List Part} (R : RS kx ky bx by_ h0 h X Y) : RS ky kx by_ bx h0 h Y X:=⟨R.ne.symm,R.ly,R.lx,R.gy,R.gx,fun q h1 h2=>R.o q h2 h1⟩
section
variable {w0 : World} {bF bG : Nat→Prop} {bl : Bool} {st : ASt} {dst : Option Nat} {K : ASt→Prop} {kx ky bx by_ : Nat} {h0 : AH} {X Y : List Part}
theorem RS.next (R : RS kx ky bx by_ h0 st.h X Y) (hs : ∀ p∈X,partOk p) (hK : ∀ h',RS kx ky bx by_ h0 h' (nxt X) Y→aPut ⟨st.n,st.kb,st.t,h'⟩ dst (hdV (nxt X)) K) :
 ACall ⟨Try.prog,tt,w0,⟨bF,bG,bl,fun _=>True⟩⟩ 50 [.p kx bx 0] st dst K:=by
 have:=R.lx;have:=R.ly;refine next_call (l:=X) (kb:=20000) (by omega) hs R.gx (fun h1 g1 o1=>hK h1 ⟨R.ne,R.lx,R.ly,g1,by rw [o1 ky R.ne.symm (by omega)];exact R.gy,fun q q1 q2 q3=>by rw [o1 q q1 (by omega)];exact R.o q q1 q2 q3⟩)
theorem RS.take {p : Part} {l : List Part} {n : Nat} (R : RS kx ky bx by_ h0 st.h (p :: l) Y) (hp : partOk p) (hn : n≤psz p) (hl : l.length≤2 ^ 20) (hK : ∀ h',RS kx ky bx by_ h0 h' (pleft p n :: l) Y→aPut ⟨st.n,st.kb,st.t,h'⟩ dst (hdV [pcut p n]) K) :
 ACall ⟨Try.prog,tt,w0,⟨bF,bG,bl,fun _=>True⟩⟩ 53 [.p kx bx 0,.v (.int .i64 n)] st dst K:=by
 have:=R.lx;have:=R.ly;refine take_call (by omega) hp hn hl R.gx (fun h1 g1 o1=>hK h1 ⟨R.ne,R.lx,R.ly,g1,by rw [o1 ky R.ne.symm (by omega)];exact R.gy,fun q q1 q2 q3=>by rw [o1 q q1 (by omega)];exact R.o q q1 q2 q3⟩)
theorem RS.whole {p : Part} {l : List Part} (R : RS kx ky bx by_ h0 st.h (p :: l) Y) (hp : partOk p) (hl : l.length≤2 ^ 20) (hK : ∀ h',RS kx ky bx by_ h0 h' (pleft p (psz p) :: l) Y→aPut ⟨st.n,st.kb,st.t,h'⟩ dst (hdV [p]) K) :
 ACall ⟨Try.prog,tt,w0,⟨bF,bG,bl,fun _=>True⟩⟩ 51 [.p kx bx 0] st dst K:=by
 have:=R.lx;have:=R.ly;refine whole_call (by omega) hp hl R.gx (fun h1 g1 o1=>hK h1 ⟨R.ne,R.lx,R.ly,g1,by rw [o1 ky R.ne.symm (by omega)];exact R.gy,fun q q1 q2 q3=>by rw [o1 q q1 (by omega)];exact R.o q q1 q2 q3⟩)
end
theorem hdV_nil : hdV [] = .agg [.v (.int .i64 0),.v (.int .i64 0),.nil]:=rfl
theorem hdV_cons {p : Part} {l : List Part} : hdV (p :: l) = .agg [.v (.int .i64 p.kind),.v (.int .i64 p.n),.ro (p.signs.map intR)]:=rfl
open Go.AM
set_option maxRecDepth 20000
set_option maxHeartbeats 1600000
theorem fCompose_no {a b : List Part} (h : ¬ (opOk a∧opOk b∧opTo a = opFrom b)) : fCompose a b = ([],false):=by unfold fCompose;rw [if_neg h]
theorem fCompose_yes {a b : List Part} (h1 : opOk a) (h2 : opOk b) (h3 : opTo a = opFrom b) : (opOk (normal (cmp a b))→fCompose a b = (normal (cmp a b),true))∧(¬ opOk (normal (cmp a b))→fCompose a b = ([],false)):=by
 unfold fCompose;rw [if_pos ⟨h1,h2,h3⟩];exact ⟨fun h=>by rw [if_pos h],fun h=>by rw [if_neg h]⟩
theorem implCompose_i (a b : List Part) (ha : nL nPart a≤2 ^ 40) (hb : nL nPart b≤2 ^ 40) : PureC Try.prog 31 [.c (.s (a.map Part.row)),.c (.s (b.map Part.row))] (.tup [.c (.s ((fCompose a b).1.map Part.row)) 3,.c (.v (.bool (fCompose a b).2)) 1]):=by
 refine PureC.intro' tt_ok Try.func31 (by kernel_rfl) rfl rfl rfl (Nat.le_of_ble_eq_true rfl) (fun w0 base=>?_);simp;refine ACall.pure (implOpOk_c a ha) (by simp) ?_;by_cases c1 : opOk a
 rotate_left
 ·have e:=fCompose_no (a:=a) (b:=b) (fun h=>c1 h.1)
  have e2 : dc (opOk a) = false:=by rw [dc_no];exact c1
  simp [e2,e]
 simp [c1];refine ACall.pure (implOpOk_c b hb) (by simp) ?_;by_cases c2 : opOk b
 rotate_left
 ·have e:=fCompose_no (a:=a) (b:=b) (fun h=>c2 h.2.1)
  have e2 : dc (opOk b) = false:=by rw [dc_no];exact c2
  simp [e2,e]
 simp [c2];refine ACall.pure (implOpTo_c a ha) (by simp) ?_;simp;refine ACall.pure (implOpFrom_c b hb) (by simp) ?_;by_cases c3 : opTo a = opFrom b
 rotate_left
 ·have e:=fCompose_no (a:=a) (b:=b) (fun h=>c3 h.2.2)
  simp [c3,e]
 have hf:=fCompose_yes c1 c2 c3;simp [c3];intro bx by_;have t1:=tsz_ok c1;have t2:=tsz_ok c2
 refine LoopT.introG eok (fun x : List Part × List Part × List Part × Hd=>CInv x.1 x.2.1∧x.2.2.1 ++ cmp x.1 x.2.1 = cmp a b∧(∀ p∈x.2.2.1,partOk p)∧x.2.2.1.length + (tsz x.1 + tsz x.2.1)≤800∧x.1.length≤1000∧x.2.1.length≤1000)
  (fun x=>⟨98,0,[(6,.p 464 bx 0),(7,.p 512 by_ 0),(8,.sl 5000 x.2.2.2 3 0 x.2.2.1.length)],
  [(464,.vars bx 94 [.ro (x.1.map Part.row)]),(512,.vars by_ 94 [.ro (x.2.1.map Part.row)]),(5000,.rows x.2.2.2 3 (x.2.2.1.map Part.row) false)]⟩) (fun x=>tsz x.1 + tsz x.2.1) (a,b,[],none)
  ⟨cinv_of c1 c2 c3,by simp,by simp,by simp;omega,by have:=c1.1.2;simp only;omega,by have:=c2.1.2;simp only;omega⟩ (by simp) (fun x hx=>Ent.refl ?_)
 obtain ⟨X,Y,L,H⟩:=x;obtain ⟨hi,hcmp,hL,hlen,hlx,hly⟩:=hx;simp only at hi hcmp hL hlen hlx hly ⊢;have xl:=nxt_len X;have yl:=nxt_len Y;obtain ⟨h0,hh0⟩ : ∃ h0 : AH,[(464,.vars bx 94 [.ro (X.map Part.row)]),(512,.vars by_ 94 [.ro (Y.map Part.row)]),(5000,.rows H 3 (L.map Part.row) false)] = h0:=⟨_,rfl⟩;have R : RS 464 512 bx by_ h0 h0 X Y:=⟨by decide,by decide,by decide,by rw [← hh0];simp,by rw [← hh0];simp,fun _ _ _ _=>rfl⟩;have g5 : AH.get h0 5000 = .rows H 3 (L.map Part.row) false:=by rw [← hh0];simp
 rw [hh0]
 clear hh0
 simp;refine R.next hi.px (fun h1 R=>?_);have okx : ∀ p∈nxt X,partOk p:=fun p hp=>hi.px p (nxt_mem hp)
 have oky : ∀ p∈nxt Y,partOk p:=fun p hp=>hi.py p (nxt_mem hp)
 have hxt:=nxt_tos X;have hyf:=nxt_frs Y;have hbal:=hi.b
 cases ex : nxt X with
 | nil=>
   rw [ex] at R;simp [hdV_nil];refine R.swap.next hi.py (fun h2 R=>?_);have R:=R.swap
   cases ey : nxt Y with
   | nil=>
     have hc : cmp X Y = []:=cmp_none (by simp [cstep,ex,ey]);simp [hdV_nil];rw [hc,List.append_nil] at hcmp;have e5:=R.o 5000 (by decide) (by decide) (by decide);refine ACall.pure (normal_c L hL (by omega)) (by simp [e5,g5]) ?_;simp;intro H2;rw [hcmp] at hL hlen ⊢;refine ACall.pure (implOpOk_c (normal (cmp a b)) (by have:=nL_normal hL;omega)) (by simp) ?_;by_cases c4 : opOk (normal (cmp a b))
     ·have e:=hf.1 c4
      simp [c4,e]
     ·have e:=hf.2 c4
      have e2 : dc (opOk (normal (cmp a b))) = false:=by rw [dc_no];exact c4
      simp [e2,e]
   | cons q y'=>
     rw [ey] at R;have hq:=(mem_nxt hi.py ey).1;have hqb:=hq.bounds;have q0 : ¬ q.kind = 0:=by omega
     simp [hdV_cons,q0];refine R.next (by simp) (fun h3 R=>?_);simp only [nxt] at R;simp [nxt,hdV_nil];refine R.swap.next (by rw [← ey];exact oky) (fun h4 R=>?_);have R:=R.swap;rw [← ey,nxt_nxt,ey] at R;rw [← ey,nxt_nxt,ey];by_cases q2 : q.kind = 2
     ·simp [hdV_cons,q2]
      refine R.swap.whole hq (by simp [ey] at yl;omega) (fun h5 R=>?_);have R:=R.swap;have e5:=R.o 5000 (by decide) (by decide) (by decide);have hc : cstep X Y = some ([pcut q (psz q)],[],pleft q (psz q) :: y'):=by simp [cstep,ex,ey,q2]
      rw [pcut_whole hq] at hc;have hn:=cstep_next hi hc;have hcm:=cmp_some hi hc;simp [hdV_cons,e5,g5];intro b1;refine ⟨by omega,fun H2=>Ent.refl ⟨[],pleft q (psz q) :: y',L ++ [q],⟨hn.inv,by rw [← hcmp,hcm,List.append_assoc],?_,?_,?_,?_⟩,hn.dec,H2,?_⟩⟩
      ·intro r hr
       rcases List.mem_append.1 hr with hr | hr
       ·exact hL r hr
       ·exact hn.ok r hr
      ·have:=hn.dec
       simp at this ⊢;omega
      ·simp
      ·simp [ey] at yl ⊢;omega
      ·simp [R.gx,R.gy,Part.row,q2]
     ·exfalso
      have:=nxt_pos ey;rw [ex] at hxt;rw [ey] at hyf;simp [tos,frs,q2] at hxt hyf;omega
 | cons p x'=>
   rw [ex] at R;have hp:=(mem_nxt hi.px ex).1;have hpb:=hp.bounds;have p0 : ¬ p.kind = 0:=by omega
   simp [hdV_cons,p0];refine R.next (by rw [← ex];exact okx) (fun h3 R=>?_);rw [← ex,nxt_nxt,ex] at R;rw [← ex,nxt_nxt,ex];by_cases p3 : p.kind = 3
   ·simp [hdV_cons,p3]
    refine R.whole hp (by simp [ex] at xl;omega) (fun h5 R=>?_);have e5:=R.o 5000 (by decide) (by decide) (by decide);have hc : cstep X Y = some ([pcut p (psz p)],pleft p (psz p) :: x',Y):=by simp [cstep,ex,p3]
    rw [pcut_whole hp] at hc;have hn:=cstep_next hi hc;have hcm:=cmp_some hi hc;simp [hdV_cons,e5,g5];intro b1;refine ⟨by omega,fun H2=>Ent.refl ⟨pleft p (psz p) :: x',Y,L ++ [p],⟨hn.inv,by rw [← hcmp,hcm,List.append_assoc],?_,?_,?_,?_⟩,hn.dec,H2,?_⟩⟩
    ·intro r hr
     rcases List.mem_append.1 hr with hr | hr
     ·exact hL r hr
     ·exact hn.ok r hr
    ·have:=hn.dec
     simp at this ⊢;omega
    ·simp [ex] at xl ⊢;omega
    ·exact hly
    ·simp [R.gx,R.gy,Part.row,p3]
   ·simp [hdV_cons,p3]
    refine R.swap.next hi.py (fun h4 R=>?_);have R:=R.swap
    cases ey : nxt Y with
    | nil=>
      exfalso
      have:=nxt_pos ex;rw [ex] at hxt;rw [ey] at hyf;simp [tos,frs,p3] at hxt hyf;omega
    | cons q y'=>
      rw [ey] at R;have hq:=(mem_nxt hi.py ey).1;have hqb:=hq.bounds;by_cases q2 : q.kind = 2
      ·simp [hdV_cons,q2]
       refine R.swap.whole hq (by simp [ey] at yl;omega) (fun h5 R=>?_);have R:=R.swap;have e5:=R.o 5000 (by decide) (by decide) (by decide);have hc : cstep X Y = some ([pcut q (psz q)],p :: x',pleft q (psz q) :: y'):=by simp [cstep,ex,ey,p3,q2]
       rw [pcut_whole hq] at hc;have hn:=cstep_next hi hc;have hcm:=cmp_some hi hc;simp [hdV_cons,e5,g5];intro b1;refine ⟨by omega,fun H2=>Ent.refl ⟨p :: x',pleft q (psz q) :: y',L ++ [q],⟨hn.inv,by rw [← hcmp,hcm,List.append_assoc],?_,?_,?_,?_⟩,hn.dec,H2,?_⟩⟩
       ·intro r hr
        rcases List.mem_append.1 hr with hr | hr
        ·exact hL r hr
        ·exact hn.ok r hr
       ·have:=hn.dec
        simp at this ⊢;omega
       ·simp [ex] at xl ⊢;omega
       ·simp [ey] at yl ⊢;omega
       ·simp [R.gx,R.gy,Part.row,q2]
      ·simp [hdV_cons,q2]
       refine R.next (by rw [← ex];exact okx) (fun h5 R=>?_);rw [← ex,nxt_nxt,ex] at R;rw [← ex,nxt_nxt,ex];simp [hdV_cons];refine ACall.pure (implSize_c p hp) (by simp [Part.row]) ?_;simp;refine R.swap.next (by rw [← ey];exact oky) (fun h6 R=>?_);have R:=R.swap;rw [← ey,nxt_nxt,ey] at R;rw [← ey,nxt_nxt,ey];simp [hdV_cons];refine ACall.pure (implSize_c q hq) (by simp [Part.row]) ?_;simp;rw [aMin_n];obtain ⟨n,hn⟩ : ∃ n,min (psz p) (psz q) = n:=⟨_,rfl⟩;rw [hn];simp;refine R.take hp (n:=n) (by omega) (by simp [ex] at xl;omega) (fun h7 R=>?_);rw [hdV_cons];obtain ⟨pc,hpc⟩ : ∃ pc,pcut p n = pc:=⟨_,rfl⟩;have pk : pc.kind = p.kind:=by rw [← hpc];simp
       rw [hpc];simp;refine R.swap.take hq (n:=n) (by omega) (by simp [ey] at yl;omega) (fun h8 R=>?_);have R:=R.swap;rw [hdV_cons];obtain ⟨qc,hqc⟩ : ∃ qc,pcut q n = qc:=⟨_,rfl⟩;have qk : qc.kind = q.kind:=by rw [← hqc];simp
       rw [hqc];have e5:=R.o 5000 (by decide) (by decide) (by decide);have hc : cstep X Y = some (if q.kind = 1 then [pc] else if p.kind = 1 then [qc] else [],pleft p n :: x',pleft q n :: y'):=by simp [cstep,ex,ey,p3,q2,hn,hpc,hqc]
       have hnx:=cstep_next hi hc;have hcm:=cmp_some hi hc;have hok:=hnx.ok;have hdec:=hnx.dec;have hlx2 : (pleft p n :: x').length≤1000:=by simp [ex] at xl ⊢;omega
       have hly2 : (pleft q n :: y').length≤1000:=by simp [ey] at yl ⊢;omega
       simp only at hcm hok hdec;simp;intro b1 b2;by_cases q1 : q.kind = 1
       ·simp only [q1,if_true] at hcm hok
        simp [qk,q1,pk,e5,g5];intro b3;refine ⟨by omega,fun H2=>Ent.refl ⟨pleft p n :: x',pleft q n :: y',L ++ [pc],⟨hnx.inv,by rw [← hcmp,hcm,List.append_assoc],?_,?_,hlx2,hly2⟩,hdec,H2,?_⟩⟩
        ·intro r hr
         rcases List.mem_append.1 hr with hr | hr
         ·exact hL r hr
         ·exact hok r hr
        ·simp;omega
        ·simp [R.gx,R.gy,Part.row,pk]
       ·by_cases p1 : p.kind = 1
        ·simp only [q1,p1,if_true,if_false] at hcm hok
         simp [qk,q1,pk,p1,e5,g5];intro b3;refine ⟨by omega,fun H2=>Ent.refl ⟨pleft p n :: x',pleft q n :: y',L ++ [qc],⟨hnx.inv,by rw [← hcmp,hcm,List.append_assoc],?_,?_,hlx2,hly2⟩,hdec,H2,?_⟩⟩
         ·intro r hr
          rcases List.mem_append.1 hr with hr | hr
          ·exact hL r hr
          ·exact hok r hr
         ·simp;omega
         ·simp [R.gx,R.gy,Part.row,qk]
        ·simp only [q1,p1,if_false,List.nil_append] at hcm hok
         simp [qk,q1,pk,p1];refine Ent.refl ⟨pleft p n :: x',pleft q n :: y',L,⟨hnx.inv,by rw [← hcmp,hcm],hL,by omega,hlx2,hly2⟩,hdec,H,?_⟩;simp [R.gx,R.gy,e5,g5]
theorem l04Size_c (p : Part) (h : partOk p) : PureC Try.prog 128 [.agg p.row] (.one (.c (vi (psz p)) 1)):=by
 refine PureC.intro' tt_ok Try.func128 (by kernel_rfl) rfl rfl rfl (Nat.le_of_ble_eq_true rfl) (fun w0 base=>?_);have hp:=psz_int h;have hb:=h.bounds;rw [hp.1];simp [Part.row];by_cases hk : p.kind = 2
 ·have:=hb.2.2.2.2.1 hk
  simp [hk,this]
 ·have:=hb.2.2.2.2.2 hk
  simp [hk,this]
structure Cu (a : List Part) (i d : Nat) (X : List Part) : Prop where
 ok : ∀ p∈a,partOk p
 le : i≤a.length
 v : ∀ h : i < a.length,d≤psz a[i]
 z : i = a.length→d = 0
 c : cur a i d = X
def hdK : List Part→Int
 | []=>0
 | p :: _=>p.kind
structure CR (kx ky bx by_ : Nat) (h0 h : AH) (a b : List Part) (i d j e : Nat) (X Y : List Part) : Prop where
 ne : kx≠ky
 lx : kx < 14000 - 16
 ly : ky < 14000 - 16
 gx : AH.get h kx = .vars bx 148 [.ro (a.map Part.row),.v (.int .i64 i),.v (.int .i64 d)]
 gy : AH.get h ky = .vars by_ 148 [.ro (b.map Part.row),.v (.int .i64 j),.v (.int .i64 e)]
 o : ∀ q,q≠kx→q≠ky→q < 14000→AH.get h q = AH.get h0 q
 cx : Cu a i d X
 cy : Cu b j e Y
theorem CR.swap {kx ky bx by_ : Nat} {h0 h : AH} {a b : List Part} {i d j e : Nat} {X Y : List Part} (R : CR kx ky bx by_ h0 h a b i d j e X Y) : CR ky kx by_ bx h0 h b a j e i d Y X:=⟨R.ne.symm,R.ly,R.lx,R.gy,R.gx,fun q h1 h2=>R.o q h2 h1,R.cy,R.cx⟩
theorem Cu.bnd {a : List Part} {i d : Nat} {X : List Part} (h : Cu a i d X) : d≤200:=by
 by_cases hlt : i < a.length
 ·have:=h.v hlt
  have:=(psz_int (h.ok _ (List.getElem_mem hlt))).2;omega
 ·have:=h.z (by have:=h.le;omega)
  omega
theorem kind_call {w0 : World} {bF bG : Nat→Prop} {bl : Bool} {st : ASt} {dst : Option Nat} {K : ASt→Prop} {kx b i d : Nat} {a X : List Part} (_hk : kx < 14000) (hl : a.length≤2 ^ 20) (cx : Cu a i d X)
 (g : st.h.get kx = .vars b 148 [.ro (a.map Part.row),.v (.int .i64 i),.v (.int .i64 d)])
 (hK : ∀ h' i' d',Cu a i' d' (nxt X)→AH.get h' kx = .vars b 148 [.ro (a.map Part.row),.v (.int .i64 i'),.v (.int .i64 d')]→(∀ q,q≠kx→q < 20000→AH.get h' q = st.h.get q)→aPut ⟨st.n,st.kb,st.t,h'⟩ dst (.v (.int .i64 (hdK (nxt X)))) K) :
 ACall ⟨Try.prog,tt,w0,⟨bF,bG,bl,fun _=>True⟩⟩ 117 [.p kx b 0] st dst K:=by
 refine ACall.inline tt_ok Try.func117 (by kernel_rfl) rfl rfl rfl (Nat.le_of_ble_eq_true rfl) 20000 (fun w1 F=>?_);simp;refine LoopT.introW eok (fun x : Nat × Nat=>Cu a x.1 x.2 (cur a x.1 x.2)∧nxt (cur a x.1 x.2) = nxt X) (fun x=>⟨62,20000,[(0,.p kx b 0),(2,.v (.int .i64 0))],(kx,.vars b 148 [.ro (a.map Part.row),.v (.int .i64 x.1),.v (.int .i64 x.2)]) :: st.h⟩) (fun x=>a.length - x.1) (i,d) ⟨⟨cx.ok,cx.le,cx.v,cx.z,rfl⟩,by rw [cx.c]⟩ (by simp [g]) (fun x hx=>?_);obtain ⟨i,d⟩:=x;obtain ⟨hc,hn⟩:=hx;have hcl:=hc.le;have hb:=hc.bnd;simp only at hc hn hcl ⊢;simp;by_cases hlt : i < a.length
 ·have hp:=hc.ok _ (List.getElem_mem hlt)
  have hd:=hc.v hlt;have hps:=psz_int hp;refine DrawT.quiet eok mix (by kernel_rfl) ?_;simp [hlt];refine ⟨_,_,l04Size_c a[i] hp,by simp [Part.row],?_⟩;by_cases he : d = psz a[i]
  ·have e1 : Go.IntKind.i64.wrap ((i : Int) + 1) = ((i + 1 : Nat) : Int):=i64_suc (by omega)
   simp [he,e1];refine ⟨i + 1,0,⟨⟨hc.ok,by omega,fun _=>by omega,fun _=>rfl,rfl⟩,?_⟩,by omega,by omega,rfl⟩;rw [← hn,he,cur_step hc.ok hlt]
  ·have he2 : ¬ (d : Int) = psz a[i]:=by omega
   have hne : ¬ i = a.length:=by omega
   simp [he2];refine DrawT.quiet eok mix (by kernel_rfl) ?_;have hne2 : ¬ (i : Int) = a.length:=by omega
   simp [hne2];refine DrawT.quiet eok mix (by kernel_rfl) ?_;simp [hlt,Part.row];have hs:=cur_stop hc.ok hlt (show d < psz a[i] by omega);rw [hs] at hn;have hk2 : hdK (nxt X) = a[i].kind:=by rw [← hn,cur_at hlt];simp [hdK]
   rw [hk2] at hK;refine hK _ i d ⟨hc.ok,hc.le,hc.v,hc.z,hn⟩ (by simp) (fun q q1 q2=>by simp [q1])
 ·have hi : i = a.length:=by omega
  have hd:=hc.z hi;refine DrawT.quiet eok mix (by kernel_rfl) ?_;simp [hlt];refine DrawT.quiet eok mix (by kernel_rfl) ?_;simp [hi];have hn2 : nxt X = []:=by rw [← hn,cur_end (by omega)];rfl
  rw [hn2] at hK;refine hK _ i d ⟨hc.ok,hc.le,hc.v,hc.z,cur_end (by omega)⟩ (by simp [hi]) (fun q q1 q2=>by simp [q1])
theorem Cu.head {a : List Part} {i d : Nat} {p : Part} {l : List Part} (h : Cu a i d (p :: l)) : ∃ hi : i < a.length,p = pleft a[i] d∧l = a.drop (i + 1)∧psz p = psz a[i] - d∧d≤psz a[i]∧p.kind = a[i].kind∧partOk p:=by
 have hi : i < a.length:=by
  have:=h.le;rcases Nat.lt_or_ge i a.length with h1 | h1
  ·exact h1
  ·have:=h.c
   rw [cur_end h1] at this
   cases this
 have hc:=h.c;rw [cur_at hi] at hc
 cases hc
 have hp:=h.ok _ (List.getElem_mem hi);exact ⟨hi,rfl,rfl,pleft_sz hp (h.v hi),h.v hi,by simp,pleft_ok hp (h.v hi)⟩
theorem Cu.add {a : List Part} {i d n : Nat} {p : Part} {l : List Part} (h : Cu a i d (p :: l)) (hn : n≤psz p) : Cu a i (d + n) (pleft p n :: l):=by
 obtain ⟨hi,h1,h2,h3,h4,-,-⟩:=h.head;exact ⟨h.ok,h.le,fun _=>by omega,fun he=>by omega,(cur_left hi h.c).symm⟩
theorem left_call {w0 : World} {bF bG : Nat→Prop} {bl : Bool} {st : ASt} {dst : Option Nat} {K : ASt→Prop} {kx b i d : Nat} {a l : List Part} {p : Part} (cx : Cu a i d (p :: l))
 (g : st.h.get kx = .vars b 148 [.ro (a.map Part.row),.v (.int .i64 i),.v (.int .i64 d)])
 (hK : aPut st dst (.v (.int .i64 (psz p))) K) :
 ACall ⟨Try.prog,tt,w0,⟨bF,bG,bl,fun _=>True⟩⟩ 118 [.p kx b 0] st dst K:=by
 refine ACall.inline tt_ok Try.func118 (by kernel_rfl) rfl rfl rfl (Nat.le_of_ble_eq_true rfl) 20000 (fun w1 F=>?_);obtain ⟨hi,h1,h2,h3,h4,-,-⟩:=cx.head;have hp:=cx.ok _ (List.getElem_mem hi);have hps:=psz_int hp;simp;refine DrawT.quiet eok mix (by kernel_rfl) ?_;simp [g,hi];refine ⟨_,_,l04Size_c a[i] hp,by simp [Part.row],?_⟩;have e : Go.IntKind.i64.wrap ((psz a[i] : Int) - (d : Int)) = (psz p : Int):=by rw [Go.IntWalk.i64_in _ (by omega)];omega
 simp [e];exact hK
theorem curTake_call {w0 : World} {bF bG : Nat→Prop} {bl : Bool} {st : ASt} {dst : Option Nat} {K : ASt→Prop} {kx b i d n : Nat} {a l : List Part} {p : Part} (_hk : kx < 14000) (cx : Cu a i d (p :: l)) (hk2 : p.kind = 2) (hn : n≤psz p)
 (g : st.h.get kx = .vars b 148 [.ro (a.map Part.row),.v (.int .i64 i),.v (.int .i64 d)])
 (hK : ∀ h',Cu a i (d + n) (pleft p n :: l)→AH.get h' kx = .vars b 148 [.ro (a.map Part.row),.v (.int .i64 i),.v (.int .i64 ((d + n : Nat) : Int))]→(∀ q,q≠kx→q < 20000→AH.get h' q = st.h.get q)→aPut ⟨st.n,st.kb,st.t,h'⟩ dst (.ro ((p.signs.take n).map intR)) K) :
 ACall ⟨Try.prog,tt,w0,⟨bF,bG,bl,fun _=>True⟩⟩ 119 [.p kx b 0,.v (.int .i64 n)] st dst K:=by
 refine ACall.inline tt_ok Try.func119 (by kernel_rfl) rfl rfl rfl (Nat.le_of_ble_eq_true rfl) 20000 (fun w1 F=>?_);obtain ⟨hi,h1,h2,h3,h4,h5,-⟩:=cx.head;have hp:=cx.ok _ (List.getElem_mem hi);have hps:=psz_int hp;have hkk : a[i].kind = 2:=by rw [← h5];exact hk2
 have hn0:=hp.bounds.2.2.2.2.1 hkk;have hsz : psz a[i] = a[i].signs.length:=by omega
 have hs : p.signs = a[i].signs.drop d:=by rw [h1];simp [pleft,hkk]
 have e : Go.IntKind.i64.wrap ((d : Int) + (n : Int)) = ((d + n : Nat) : Int):=by rw [Go.IntWalk.i64_in _ (by omega)];omega
 have hle : d + n≤a[i].signs.length:=by omega
 have hv : cut (a[i].signs.map intR) d n = (p.signs.take n).map intR:=by
  unfold cut
  split
  ·rename_i hh
   rw [hs,hh.1];simp at hh;simp [hh.2]
  ·rw [hs,List.map_take,List.map_drop]
 obtain ⟨m,hm⟩ : ∃ m,d + n = m:=⟨_,rfl⟩;have e2 : m - d = n:=by omega
 have hadd:=cx.add hn;rw [hm] at e hle hK hadd;simp;refine DrawT.quiet eok mix (by kernel_rfl) ?_;simp [g,hi,Part.row,e,e2,hv];simp only [List.map_take] at hK;refine ⟨hle,by omega,hK _ hadd ?_ (fun q q1 q2=>?_)⟩
 ·simp
 ·simp [q1]
theorem l04Min_c (x y : Nat) : PureC Try.prog 120 [.c (vi x),.c (vi y)] (.one (.c (vi ((min x y : Nat) : Int)) 1)):=by
 refine PureC.intro' tt_ok Try.func120 (by kernel_rfl) rfl rfl rfl (Nat.le_of_ble_eq_true rfl) (fun w0 base=>?_);simp;by_cases h : x < y
 ·have : min x y = x:=by omega
  simp [h,this]
 ·have : min x y = y:=by omega
  simp [h,this]
section
variable {w0 : World} {bF bG : Nat→Prop} {bl : Bool} {st : ASt} {dst : Option Nat} {K : ASt→Prop} {kx ky bx by_ i d j e : Nat} {h0 : AH} {a b X Y : List Part}
theorem CR.kind (R : CR kx ky bx by_ h0 st.h a b i d j e X Y) (hl : a.length≤2 ^ 20) (hK : ∀ h' i' d',CR kx ky bx by_ h0 h' a b i' d' j e (nxt X) Y→aPut ⟨st.n,st.kb,st.t,h'⟩ dst (.v (.int .i64 (hdK (nxt X)))) K) :
 ACall ⟨Try.prog,tt,w0,⟨bF,bG,bl,fun _=>True⟩⟩ 117 [.p kx bx 0] st dst K:=by
 have:=R.lx;have:=R.ly;refine kind_call (by omega) hl R.cx R.gx (fun h1 i1 d1 c1 g1 o1=>hK h1 i1 d1 ⟨R.ne,R.lx,R.ly,g1,by rw [o1 ky R.ne.symm (by omega)];exact R.gy,fun q q1 q2 q3=>by rw [o1 q q1 (by omega)];exact R.o q q1 q2 q3,c1,R.cy⟩)
theorem CR.left {p : Part} {l : List Part} (R : CR kx ky bx by_ h0 st.h a b i d j e (p :: l) Y) (hK : aPut st dst (.v (.int .i64 (psz p))) K) :
 ACall ⟨Try.prog,tt,w0,⟨bF,bG,bl,fun _=>True⟩⟩ 118 [.p kx bx 0] st dst K:=left_call R.cx R.gx hK
theorem CR.take {p : Part} {l : List Part} {n : Nat} (R : CR kx ky bx by_ h0 st.h a b i d j e (p :: l) Y) (hk2 : p.kind = 2) (hn : n≤psz p) (hK : ∀ h',CR kx ky bx by_ h0 h' a b i (d + n) j e (pleft p n :: l) Y→aPut ⟨st.n,st.kb,st.t,h'⟩ dst (.ro ((p.signs.take n).map intR)) K) :
 ACall ⟨Try.prog,tt,w0,⟨bF,bG,bl,fun _=>True⟩⟩ 119 [.p kx bx 0,.v (.int .i64 n)] st dst K:=by
 have:=R.lx;have:=R.ly;refine curTake_call (by omega) R.cx hk2 hn R.gx (fun h1 c1 g1 o1=>hK h1 ⟨R.ne,R.lx,R.ly,g1,by rw [o1 ky R.ne.symm (by omega)];exact R.gy,fun q q1 q2 q3=>by rw [o1 q q1 (by omega)];exact R.o q q1 q2 q3,c1,R.cy⟩)
theorem CR.rebase (R : CR kx ky bx by_ h0 st.h a b i d j e X Y) {h' : AH} (hx : AH.get h' kx = AH.get st.h kx) (hy : AH.get h' ky = AH.get st.h ky) : CR kx ky bx by_ h' h' a b i d j e X Y:=
 ⟨R.ne,R.lx,R.ly,hx.trans R.gx,hy.trans R.gy,fun _ _ _ _=>rfl,R.cx,R.cy⟩
theorem CR.done {p : Part} {l : List Part} {n : Nat} (R : CR kx ky bx by_ h0 st.h a b i d j e (p :: l) Y) (hn : n≤psz p) : CR kx ky bx by_ ((kx,.vars bx 148 [.ro (a.map Part.row),.v (.int .i64 i),.v (.int .i64 ((d + n : Nat) : Int))]) :: st.h) ((kx,.vars bx 148 [.ro (a.map Part.row),.v (.int .i64 i),.v (.int .i64 ((d + n : Nat) : Int))]) :: st.h) a b i (d + n) j e (pleft p n :: l) Y:=
 ⟨R.ne,R.lx,R.ly,by simp,by rw [get_cons,if_neg R.ne.symm];exact R.gy,fun _ _ _ _=>rfl,R.cx.add hn,R.cy⟩
end
open Go.AM
set_option maxRecDepth 20000
theorem specFlush_callC {w0 : World} {bF bG : Nat→Prop} {bl : Bool} {st : ASt} {dst : Option Nat} {K : ASt→Prop} {L : List Part} {P : List Int} {D : Int} {b : Nat} {Hl Hp : Hd} (hL : L.length≤2 ^ 20) (_hP : P.length≤2 ^ 40)
 (g160 : st.h.get 576 = .vars b 121 [.sl 5000 Hl 3 0 L.length,.sl 5001 Hp 1 0 P.length,.v (.int .i64 D)])
 (g5000 : st.h.get 5000 = .rows Hl 3 (L.map Part.row) true) (g5001 : st.h.get 5001 = .rows Hp 1 (P.map intR) true)
 (hK : ∀ Hl' h',AH.get h' 576 = .vars b 121 [.sl 5000 Hl' 3 0 (nbFlush L P D).length,.nil,.v (.int .i64 0)] → AH.get h' 5000 = .rows Hl' 3 ((nbFlush L P D).map Part.row) true →
  (∀ q,q < 15000→q≠576→q≠5000→q≠5001→AH.get h' q = st.h.get q)→aPut ⟨st.n,st.kb,st.t,h'⟩ dst (.tup []) K) : ACall ⟨Try.prog,tt,w0,⟨bF,bG,bl,fun _=>True⟩⟩ 105 [.p 576 b 0] st dst K:=by
 refine ACall.inline tt_ok Try.func105 (by kernel_rfl) rfl rfl rfl (Nat.le_of_ble_eq_true rfl) 20000 (fun w1 F=>?_);simp [g160];by_cases hp : P = []
 ·have hp0 : ¬ 0 < P.length:=by simp [hp]
  simp [hp0,g160];by_cases hd : 0 < D
  ·simp [hd]
   refine DrawT.introP eok mix [0,1,2,3,4,5,6,7,8,9,12,13] [10,11,14] [([false,false,true,false,false,false,false,false,false,false,false,false],[true,true,false,true,true,true,true,true,true,true,true,true]),([false,false,false,false,false,false,false,true,false,false,false,false],[true,true,false,true,true,true,true,false,true,true,true,true]),([true,false,false,true,true,true,true,false,true,true,true,true],[false,true,false,false,false,false,false,false,false,false,false,false])] [false,true,false,false,false,false,false,false,false,false,false,false] (by kernel_rfl) ?_;simp [g160,g5000];intro b1;refine ⟨by omega,fun H=>hK H _ ?_ ?_ ?_⟩
   ·simp [flush3 hp hd]
   ·simp [flush3 hp hd,Part.row]
   ·intro q q0 q1 q2 q3
    repeat (first | exact rfl | refine (get_miss (by omega)).trans ?_)
  ·simp [hd,g160]
   refine hK Hl _ ?_ ?_ ?_
   ·simp [flush4 hp hd]
   ·simp [flush4 hp hd,g5000]
   ·intro q q0 q1 q2 q3
    repeat (first | exact rfl | refine (get_miss (by omega)).trans ?_)
 ·have hp0 : 0 < P.length:=List.length_pos_iff.2 hp
  simp [hp0];refine DrawT.introP eok mix [0,1,2,3,4,5,6,7,8,9,12,13] [10,11,14] [([false,false,true,false,false,false,false,false,false,false,false,false],[true,true,false,true,true,true,true,true,true,true,true,true]),([false,false,false,false,false,false,false,true,false,false,false,false],[true,true,false,true,true,true,true,false,true,true,true,true]),([true,false,false,true,true,true,true,false,true,true,true,true],[false,true,false,false,false,false,false,false,false,false,false,false])] [false,true,false,false,false,false,false,false,false,false,false,false] (by kernel_rfl) ?_;simp [g160,g5000,g5001];intro b1;refine ⟨by omega,fun H=>?_⟩;by_cases hd : 0 < D
  ·simp [hd]
   refine DrawT.introP eok mix [0,1,2,3,4,5,6,7,8,9,12,13] [10,11,14] [([false,false,true,false,false,false,false,false,false,false,false,false],[true,true,false,true,true,true,true,true,true,true,true,true]),([false,false,false,false,false,false,false,true,false,false,false,false],[true,true,false,true,true,true,true,false,true,true,true,true]),([true,false,false,true,true,true,true,false,true,true,true,true],[false,true,false,false,false,false,false,false,false,false,false,false])] [false,true,false,false,false,false,false,false,false,false,false,false] (by kernel_rfl) ?_;simp;intro b2;refine ⟨by omega,fun H2=>hK H2 _ ?_ ?_ ?_⟩
   ·simp [flush1 hp hd]
   ·simp [flush1 hp hd,Part.row]
   ·intro q q0 q1 q2 q3
    repeat (first | exact rfl | refine (get_miss (by omega)).trans ?_)
  ·simp [hd]
   refine hK H _ ?_ ?_ ?_
   ·simp [flush2 hp hd]
   ·simp [flush2 hp hd,Part.row]
   ·intro q q0 q1 q2 q3
    repeat (first | exact rfl | refine (get_miss (by omega)).trans ?_)
theorem specKeep_callC {w0 : World} {bF bG : Nat→Prop} {bl : Bool} {st : ASt} {dst : Option Nat} {K : ASt→Prop} {L : List Part} {P : List Int} {D n : Int} {b : Nat} {Hl Hp : Hd} (hL : L.length≤2 ^ 19) (hP : P.length≤2 ^ 40) (hn0 : 0 < n) (hn : n≤200) (hF : ∀ q∈nbFlush L P D,0≤q.n∧q.n≤2 ^ 40)
 (g160 : st.h.get 576 = .vars b 121 [.sl 5000 Hl 3 0 L.length,.sl 5001 Hp 1 0 P.length,.v (.int .i64 D)])
 (g5000 : st.h.get 5000 = .rows Hl 3 (L.map Part.row) true) (g5001 : st.h.get 5001 = .rows Hp 1 (P.map intR) true)
 (hK : ∀ Hl' h',AH.get h' 576 = .vars b 121 [.sl 5000 Hl' 3 0 (nbKeep (nbFlush L P D) n).length,.nil,.v (.int .i64 0)] → AH.get h' 5000 = .rows Hl' 3 ((nbKeep (nbFlush L P D) n).map Part.row) true →
  (∀ q,q < 15000→q≠576→q≠5000→q≠5001→AH.get h' q = st.h.get q)→aPut ⟨st.n,st.kb,st.t,h'⟩ dst (.tup []) K) : ACall ⟨Try.prog,tt,w0,⟨bF,bG,bl,fun _=>True⟩⟩ 80 [.p 576 b 0,.v (.int .i64 n)] st dst K:=by
 refine ACall.inline tt_ok Try.func80 (by kernel_rfl) rfl rfl rfl (Nat.le_of_ble_eq_true rfl) 30000 (fun w1 F=>?_);have n0 : ¬ n = 0:=by omega
 simp [n0];refine specFlush_callC (L:=L) (P:=P) (D:=D) (Hl:=Hl) (Hp:=Hp) (by omega) hP (by simp [g160]) (by simp [g5000]) (by simp [g5001]) (fun Hl' h' k160 k5000 k80=>?_);have f1:=nbFlush_len L P D;generalize nbFlush L P D = F at f1 hF k160 k5000 hK;by_cases hF0 : 0 < F.length
 ·obtain ⟨m,hm⟩ : ∃ m,F.length = m + 1:=⟨F.length - 1,by omega⟩
  have hmlt : m < F.length:=by omega
  have hmm : (m : Int) < m + 1:=by omega
  have em : Go.IntKind.i64.wrap (m : Int) = m:=i64_nat (by omega)
  have hk : nbKeep F n = if F[m].kind = 1 then F.set m ⟨1,F[m].n + n,F[m].signs⟩ else F ++ [⟨1,n,[]⟩]:=by
   have e0 : F.length - 1 = m:=by omega
   simp [nbKeep,hF0,e0]
  have hq:=hF _ (List.getElem_mem hmlt);have em2 : Go.IntKind.i64.wrap (F[m].n + n) = F[m].n + n:=Go.IntWalk.i64_in _ (by omega);simp [k160,k5000,hm,em,hmm,Part.row];by_cases ck : F[m].kind = 1
  ·rw [if_pos ck] at hk
   simp [ck];refine DrawT.introP eok mix [0,1,2,3,4,5,6,7,8,9,10,11,12,13,14,15,16,17,18] [19] [([true,false,true,true,true,true,true,true,true,true,true,true,true,true,true,true,true,true,true],[false,true,false,false,false,false,false,false,false,false,false,false,false,false,false,false,false,false,false])] [false,true,false,false,false,false,false,false,false,false,false,false,false,false,false,false,false,false,false] (by kernel_rfl) ?_;simp [k160,k5000,hm,em,hmm,Part.row,ck,em2];have hmod:=modify_row (F:=F) (m:=m) hmlt (g:=fun row=>putL row 1 [CD.v (Value.int IntKind.i64 (F[m].n + n))]) (p:=⟨1,F[m].n + n,F[m].signs⟩) (by simp [Part.row,ck]);refine hK Hl' _ ?_ ?_ ?_
   ·simp [k160,hk,hm]
   ·simp [hk,hmod]
   ·intro q q0 q1 q2 q3
    repeat (first | exact k80 q q0 q1 q2 q3 | exact rfl | refine (get_miss (by omega)).trans ?_)
  ·rw [if_neg ck] at hk
   simp [ck,k160,k5000,hm];intro b1;refine ⟨by omega,fun H=>hK H _ ?_ ?_ ?_⟩
   ·simp [hk,hm]
   ·simp [hk,Part.row]
   ·intro q q0 q1 q2 q3
    repeat (first | exact k80 q q0 q1 q2 q3 | exact rfl | refine (get_miss (by omega)).trans ?_)
 ·have hF1 : F = []:=List.eq_nil_of_length_eq_zero (by omega)
  subst hF1;have hk : nbKeep [] n = [⟨1,n,[]⟩]:=by simp [nbKeep]
  simp [k160,k5000];intro b1 H;refine hK H _ ?_ ?_ ?_
  ·simp [hk]
  ·simp [hk,Part.row]
  ·intro q q0 q1 q2 q3
   repeat (first | exact k80 q q0 q1 q2 q3 | exact rfl | refine (get_miss (by omega)).trans ?_)
theorem specPut_callC {w0 : World} {bF bG : Nat→Prop} {bl : Bool} {st : ASt} {dst : Option Nat} {K : ASt→Prop} {L : List Part} {P l : List Int} {D : Int} {b : Nat} {Hl Hp : Hd} (hP : P.length≤2 ^ 40) (hl : l.length≤2 ^ 40)
 (g160 : st.h.get 576 = .vars b 121 [.sl 5000 Hl 3 0 L.length,.sl 5001 Hp 1 0 P.length,.v (.int .i64 D)]) (g5001 : st.h.get 5001 = .rows Hp 1 (P.map intR) true)
 (hK : ∀ Hp' h',AH.get h' 576 = .vars b 121 [.sl 5000 Hl 3 0 L.length,.sl 5001 Hp' 1 0 (P ++ l).length,.v (.int .i64 D)] → AH.get h' 5001 = .rows Hp' 1 ((P ++ l).map intR) true → AH.get h' 5000 = st.h.get 5000 →
  (∀ q,q < 15000→q≠576→q≠5000→q≠5001→AH.get h' q = st.h.get q)→aPut ⟨st.n,st.kb,st.t,h'⟩ dst (.tup []) K) : ACall ⟨Try.prog,tt,w0,⟨bF,bG,bl,fun _=>True⟩⟩ 81 [.p 576 b 0,.ro (l.map intR)] st dst K:=by
 refine ACall.inline tt_ok Try.func81 (by kernel_rfl) rfl rfl rfl (Nat.le_of_ble_eq_true rfl) 30000 (fun w1 F=>?_);simp [g160,g5001];refine ⟨by omega,fun H=>hK H _ ?_ ?_ ?_ ?_⟩
 ·simp
 ·simp
 ·simp
 ·intro q q0 q1 q2 q3
  repeat (first | exact rfl | refine (get_miss (by omega)).trans ?_)
theorem specDrop_callC {w0 : World} {bF bG : Nat→Prop} {bl : Bool} {st : ASt} {dst : Option Nat} {K : ASt→Prop} {n D : Int} {b : Nat} {x y : AV} (h0 : 0≤D∧D≤2 ^ 40) (h1 : 0≤n∧n≤2 ^ 40)
 (g160 : st.h.get 576 = .vars b 121 [x,y,.v (.int .i64 D)])
 (hK : ∀ h',AH.get h' 576 = .vars b 121 [x,y,.v (.int .i64 (D + n))]→(∀ q,q≠576→AH.get h' q = st.h.get q)→aPut ⟨st.n,st.kb,st.t,h'⟩ dst (.tup []) K) : ACall ⟨Try.prog,tt,w0,⟨bF,bG,bl,fun _=>True⟩⟩ 82 [.p 576 b 0,.v (.int .i64 n)] st dst K:=by
 refine ACall.inline tt_ok Try.func82 (by kernel_rfl) rfl rfl rfl (Nat.le_of_ble_eq_true rfl) 30000 (fun w1 F=>?_);have e : Go.IntKind.i64.wrap (D + n) = D + n:=Go.IntWalk.i64_in _ (by omega);simp [g160,e];refine hK _ (by simp) (fun q hq=>by simp [hq])
set_option maxHeartbeats 1600000
theorem nbRun_snoc (L : List Part) (p : Part) : nbRun (L ++ [p]) = nbStep (nbRun L) p:=by simp [nbRun,List.foldl_append]
theorem nbRun_all {L : List Part} (h : ∀ p∈L,partOk p) : NbOk L.length (nbRun L):=by
 have:=nbRun_ok h L.length (Nat.le_refl _)
 rwa [List.take_length] at this
theorem specCompose_i (a b : List Part) (ha : nL nPart a≤2 ^ 40) (hb : nL nPart b≤2 ^ 40) : PureC Try.prog 99 [.c (.s (a.map Part.row)),.c (.s (b.map Part.row))] (.tup [.c (.s ((fCompose a b).1.map Part.row)) 3,.c (.v (.bool (fCompose a b).2)) 1]):=by
 refine PureC.intro' tt_ok Try.func99 (by kernel_rfl) rfl rfl rfl (Nat.le_of_ble_eq_true rfl) (fun w0 base=>?_);simp;refine ACall.pure (specOpOk_c a ha) (by simp) ?_;by_cases c1 : opOk a
 rotate_left
 ·have e:=fCompose_no (a:=a) (b:=b) (fun h=>c1 h.1)
  have e2 : dc (opOk a) = false:=by rw [dc_no];exact c1
  simp [e2,e]
 simp [c1];refine ACall.pure (specOpOk_c b hb) (by simp) ?_;by_cases c2 : opOk b
 rotate_left
 ·have e:=fCompose_no (a:=a) (b:=b) (fun h=>c2 h.2.1)
  have e2 : dc (opOk b) = false:=by rw [dc_no];exact c2
  simp [e2,e]
 simp [c2];refine ACall.pure (specOpTo_c a ha) (by simp) ?_;simp;refine ACall.pure (specOpFrom_c b hb) (by simp) ?_;by_cases c3 : opTo a = opFrom b
 rotate_left
 ·have e:=fCompose_no (a:=a) (b:=b) (fun h=>c3 h.2.2)
  simp [c3,e]
 have hf:=fCompose_yes c1 c2 c3;simp [c3];intro bx by_ bz;have t1:=tsz_ok c1;have t2:=tsz_ok c2;have la:=c1.1.2;have lb:=c2.1.2;have z0 : ∀ o : List Part,cur o 0 0 = o:=fun o=>by rw [cur_zero,List.drop_zero]
 refine LoopT.introG eok (fun x : Nat × Nat × Nat × Nat × List Part × Hd × Hd=>Cu a x.1 x.2.1 (cur a x.1 x.2.1)∧Cu b x.2.2.1 x.2.2.2.1 (cur b x.2.2.1 x.2.2.2.1)∧CInv (cur a x.1 x.2.1) (cur b x.2.2.1 x.2.2.2.1)∧x.2.2.2.2.1 ++ cmp (cur a x.1 x.2.1) (cur b x.2.2.1 x.2.2.2.1) = cmp a b∧(∀ p∈x.2.2.2.2.1,partOk p)∧x.2.2.2.2.1.length + (tsz (cur a x.1 x.2.1) + tsz (cur b x.2.2.1 x.2.2.2.1))≤800)
  (fun x=>⟨144,0,[(6,.p 496 bx 0),(7,.p 544 by_ 0),(8,.p 576 bz 0)],
  [(496,.vars bx 148 [.ro (a.map Part.row),.v (.int .i64 x.1),.v (.int .i64 x.2.1)]),(544,.vars by_ 148 [.ro (b.map Part.row),.v (.int .i64 x.2.2.1),.v (.int .i64 x.2.2.2.1)]),
   (576,.vars bz 121 [.sl 5000 x.2.2.2.2.2.1 3 0 (nbRun x.2.2.2.2.1).1.length,.sl 5001 x.2.2.2.2.2.2 1 0 (nbRun x.2.2.2.2.1).2.1.length,.v (.int .i64 (nbRun x.2.2.2.2.1).2.2)]),
   (5000,.rows x.2.2.2.2.2.1 3 ((nbRun x.2.2.2.2.1).1.map Part.row) true),(5001,.rows x.2.2.2.2.2.2 1 ((nbRun x.2.2.2.2.1).2.1.map intR) true)]⟩) (fun x=>tsz (cur a x.1 x.2.1) + tsz (cur b x.2.2.1 x.2.2.2.1)) (0,0,0,0,[],none,none)
  ⟨⟨c1.1.1,Nat.zero_le _,fun _=>Nat.zero_le _,fun _=>rfl,rfl⟩,⟨c2.1.1,Nat.zero_le _,fun _=>Nat.zero_le _,fun _=>rfl,rfl⟩,by simp only [z0];exact cinv_of c1 c2 c3,by simp [z0],by simp,by simp [z0];omega⟩ (by simp [nbRun]) (fun x hx=>Ent.refl ?_)
 obtain ⟨i,d,j,e,L,H,G⟩:=x;obtain ⟨cx,cy,hi,hcmp,hL,hlen⟩:=hx;simp only at cx cy hi hcmp hL hlen ⊢;have hB:=nbRun_all hL;obtain ⟨B,hBe⟩ : ∃ B,nbRun L = B:=⟨_,rfl⟩;obtain ⟨BL,BP,BD⟩:=B;rw [hBe] at hB;obtain ⟨k1,k2,k3,k4,k5⟩:=hB;simp only [hBe];simp only at k1 k2 k3 k4 k5;obtain ⟨X,hX⟩ : ∃ X,cur a i d = X:=⟨_,rfl⟩;obtain ⟨Y,hY⟩ : ∃ Y,cur b j e = Y:=⟨_,rfl⟩;rw [hX] at cx hi hcmp hlen;rw [hY] at cy hi hcmp hlen
 obtain ⟨h0,hh0⟩ : ∃ h0 : AH,[(496,.vars bx 148 [.ro (a.map Part.row),.v (.int .i64 i),.v (.int .i64 d)]),(544,.vars by_ 148 [.ro (b.map Part.row),.v (.int .i64 j),.v (.int .i64 e)]),
  (576,.vars bz 121 [.sl 5000 H 3 0 BL.length,.sl 5001 G 1 0 BP.length,.v (.int .i64 BD)]),
  (5000,.rows H 3 (BL.map Part.row) true),(5001,.rows G 1 (BP.map intR) true)] = h0:=⟨_,rfl⟩
 have R : CR 496 544 bx by_ h0 h0 a b i d j e X Y:=⟨by decide,by decide,by decide,by rw [← hh0];simp,by rw [← hh0];simp,fun _ _ _ _=>rfl,cx,cy⟩;have g5 : AH.get h0 5000 = .rows H 3 (BL.map Part.row) true:=by rw [← hh0];simp
 have g6 : AH.get h0 5001 = .rows G 1 (BP.map intR) true:=by rw [← hh0];simp
 have g7 : AH.get h0 576 = .vars bz 121 [.sl 5000 H 3 0 BL.length,.sl 5001 G 1 0 BP.length,.v (.int .i64 BD)]:=by rw [← hh0];simp
 rw [hh0]
 clear hh0
 simp
 have fin : ∀ {i' d' j' e' : Nat} {r : List Part × List Part × List Part},Cu a i' d' r.2.1 → Cu b j' e' r.2.2 → cstep X Y = some r →
  (Cu a i' d' (cur a i' d')∧Cu b j' e' (cur b j' e')∧CInv (cur a i' d') (cur b j' e')∧(L ++ r.1) ++ cmp (cur a i' d') (cur b j' e') = cmp a b∧(∀ p∈L ++ r.1,partOk p)∧(L ++ r.1).length + (tsz (cur a i' d') + tsz (cur b j' e'))≤800)∧tsz (cur a i' d') + tsz (cur b j' e') < tsz (cur a i d) + tsz (cur b j e):=by
  intro i' d' j' e' r hu hv hs;have hn:=cstep_next hi hs;have hcm:=cmp_some hi hs;have hdec:=hn.dec;have hln:=hn.len;rw [hu.c,hv.c,hX,hY];refine ⟨⟨hu,hv,hn.inv,by rw [List.append_assoc,← hcm,hcmp],?_,?_⟩,hdec⟩
  ·intro p hp
   rcases List.mem_append.1 hp with hp | hp
   ·exact hL p hp
   ·exact hn.ok p hp
  ·rw [List.length_append];omega
 refine R.kind (by omega) (fun h1 i1 d1 R=>?_);have okx : ∀ p∈nxt X,partOk p:=fun p hp=>hi.px p (nxt_mem hp)
 have oky : ∀ p∈nxt Y,partOk p:=fun p hp=>hi.py p (nxt_mem hp)
 have hxt:=nxt_tos X;have hyf:=nxt_frs Y;have hbal:=hi.b
 cases ex : nxt X with
 | nil=>
   rw [ex] at R;simp [hdK];refine R.swap.kind (by omega) (fun h2 j1 e1 R=>?_);have R:=R.swap
   cases ey : nxt Y with
   | nil=>
     have hc : cmp X Y = []:=cmp_none (by simp [cstep,ex,ey]);simp [hdK];rw [hc,List.append_nil] at hcmp;have e5:=R.o 5000 (by decide) (by decide) (by decide);have e6:=R.o 5001 (by decide) (by decide) (by decide);have e7:=R.o 576 (by decide) (by decide) (by decide);refine ACall.inline tt_ok Try.func83 (by kernel_rfl) rfl rfl rfl (Nat.le_of_ble_eq_true rfl) 30000 (fun w1 F=>?_);simp;refine specFlush_callC (L:=BL) (P:=BP) (D:=BD) (Hl:=H) (Hp:=G) (by omega) (by omega) (by simp [e7,g7]) (by simp [e5,g5]) (by simp [e6,g6]) (fun Hl' h' k576 k5000 ko=>?_);have hnorm : nbFlush BL BP BD = normal (cmp a b):=by rw [← hcmp];unfold normal;rw [hBe]
     rw [hnorm] at k576 k5000;simp [k576];refine ACall.pure (specOpOk_c (normal (cmp a b)) (by rw [← hcmp];have:=nL_normal hL;omega)) (by simp [k5000]) ?_;by_cases c4 : opOk (normal (cmp a b))
     ·have e:=hf.1 c4
      simp [c4,e,k5000]
     ·have e:=hf.2 c4
      have e2 : dc (opOk (normal (cmp a b))) = false:=by rw [dc_no];exact c4
      simp [e2,e]
   | cons q y'=>
     rw [ey] at R;have hq:=(mem_nxt hi.py ey).1;have hqb:=hq.bounds;have q0 : ¬ q.kind = 0:=by omega
     simp [hdK,q0];refine R.kind (by omega) (fun h3 i2 d2 R=>?_);simp only [nxt] at R;simp [nxt,hdK];refine R.swap.kind (by omega) (fun h4 j2 e2 R=>?_);have R:=R.swap;rw [← ey,nxt_nxt,ey] at R;rw [← ey,nxt_nxt,ey];by_cases q2 : q.kind = 2
     ·simp [hdK,q2]
      refine R.swap.left ?_;simp;refine R.swap.take q2 (Nat.le_refl _) (fun h5 R=>?_);have R:=R.swap;have e5:=R.o 5000 (by decide) (by decide) (by decide);have e6:=R.o 5001 (by decide) (by decide) (by decide);have e7:=R.o 576 (by decide) (by decide) (by decide);simp;have hc : cstep X Y = some ([pcut q (psz q)],[],pleft q (psz q) :: y'):=by simp [cstep,ex,ey,q2]
      have hf:=fin R.cx R.cy hc;rw [pcut_whole hq] at hf;have hpsz : psz q = q.signs.length:=by have:=hqb.2.2.2.2.1 q2;unfold psz;omega
      have htk : q.signs.take (psz q) = q.signs:=List.take_of_length_le (by omega);rw [← List.map_take,htk];refine specPut_callC (L:=BL) (P:=BP) (D:=BD) (Hl:=H) (Hp:=G) (by omega) (by omega) (by simp [e7,g7]) (by simp [e6,g6]) (fun Hp' h' k576 k5001 k5000 ko=>?_);have R:=R.rebase (h':=h') (ko 496 (by decide) (by decide) (by decide) (by decide)) (ko 544 (by decide) (by decide) (by decide) (by decide));simp;refine Ent.refl ⟨_,_,_,_,_,hf.1,hf.2,H,Hp',?_⟩;rw [nbRun_snoc,hBe];simp [nbStep,q2,R.gx,R.gy,k576,k5001,k5000,e5,g5]
     ·exfalso
      have:=nxt_pos ey;rw [ex] at hxt;rw [ey] at hyf;simp [tos,frs,q2] at hxt hyf;omega
 | cons p x'=>
   rw [ex] at R;have hp:=(mem_nxt hi.px ex).1;have hpb:=hp.bounds;have hps:=psz_int hp;have p0 : ¬ p.kind = 0:=by omega
   simp [hdK,p0];refine R.kind (by omega) (fun h3 i2 d2 R=>?_);rw [← ex,nxt_nxt,ex] at R;rw [← ex,nxt_nxt,ex];by_cases p3 : p.kind = 3
   ·simp [hdK,p3]
    refine R.left ?_;simp;have e5:=R.o 5000 (by decide) (by decide) (by decide);have e6:=R.o 5001 (by decide) (by decide) (by decide);have e7:=R.o 576 (by decide) (by decide) (by decide);refine specDrop_callC (n:=(psz p : Int)) (D:=BD) (by omega) (by omega) (e7.trans g7) (fun h' k576 ko=>?_);have R:=R.rebase (h':=h') (ko 496 (by decide)) (ko 544 (by decide));have hc : cstep X Y = some ([pcut p (psz p)],pleft p (psz p) :: x',Y):=by simp [cstep,ex,p3]
    have hd:=R.done (st:=⟨144,0,[],h'⟩) (Nat.le_refl (psz p));obtain ⟨m,hm⟩ : ∃ m,d2 + psz p = m:=⟨_,rfl⟩;have ew : Go.IntKind.i64.wrap ((d2 : Int) + (psz p : Int)) = (m : Int):=by rw [Go.IntWalk.i64_in _ (by have:=R.cx.bnd;omega)];omega
    rw [hm] at hd;have hf:=fin hd.cx hd.cy hc;rw [pcut_whole hp] at hf;have h5:=ko 5000 (by decide);have h6:=ko 5001 (by decide);simp [R.gx,ew];refine Ent.refl ⟨_,_,_,_,_,hf.1,hf.2,H,G,?_⟩;rw [nbRun_snoc,hBe];have hpn : (psz p : Int) = p.n:=by have:=hpb.2.2.2.2.2 (by omega);rw [hps.1,this];simp
    simp [nbStep,p3,R.gy,k576,h5,h6,e5,g5,e6,g6,hpn]
   ·simp [hdK,p3]
    refine R.swap.kind (by omega) (fun h4 j2 e2 R=>?_);have R:=R.swap
    cases ey : nxt Y with
    | nil=>
      exfalso
      have:=nxt_pos ex;rw [ex] at hxt;rw [ey] at hyf;simp [tos,frs,p3] at hxt hyf;omega
    | cons q y'=>
      rw [ey] at R;have hq:=(mem_nxt hi.py ey).1;have hqb:=hq.bounds;have hqs:=psz_int hq;by_cases q2 : q.kind = 2
      ·simp [hdK,q2]
       refine R.swap.left ?_;simp;refine R.swap.take q2 (Nat.le_refl _) (fun h5 R=>?_);have R:=R.swap;have e5:=R.o 5000 (by decide) (by decide) (by decide);have e6:=R.o 5001 (by decide) (by decide) (by decide);have e7:=R.o 576 (by decide) (by decide) (by decide);simp;have hc : cstep X Y = some ([pcut q (psz q)],p :: x',pleft q (psz q) :: y'):=by simp [cstep,ex,ey,q2,p3]
       have hf:=fin R.cx R.cy hc;rw [pcut_whole hq] at hf;have hpsz : psz q = q.signs.length:=by have:=hqb.2.2.2.2.1 q2;unfold psz;omega
       have htk : q.signs.take (psz q) = q.signs:=List.take_of_length_le (by omega);rw [← List.map_take,htk];refine specPut_callC (L:=BL) (P:=BP) (D:=BD) (Hl:=H) (Hp:=G) (by omega) (by omega) (by simp [e7,g7]) (by simp [e6,g6]) (fun Hp' h' k576 k5001 k5000 ko=>?_);have R:=R.rebase (h':=h') (ko 496 (by decide) (by decide) (by decide) (by decide)) (ko 544 (by decide) (by decide) (by decide) (by decide));simp;refine Ent.refl ⟨_,_,_,_,_,hf.1,hf.2,H,Hp',?_⟩;rw [nbRun_snoc,hBe];simp [nbStep,q2,R.gx,R.gy,k576,k5001,k5000,e5,g5]
      ·simp [hdK,q2]
       refine R.left ?_;simp;refine R.swap.left ?_;simp;refine ACall.pure (l04Min_c (psz p) (psz q)) (by simp) ?_;have pp:=nxt_pos ex;have qp:=nxt_pos ey;obtain ⟨n,hn⟩ : ∃ n,min (psz p) (psz q) = n:=⟨_,rfl⟩;rw [hn];simp;refine R.kind (by omega) (fun h5 i3 d3 R=>?_);rw [← ex,nxt_nxt,ex] at R;rw [← ex,nxt_nxt,ex];simp [hdK];refine R.swap.kind (by omega) (fun h6 j3 e3 R=>?_);have R:=R.swap;rw [← ey,nxt_nxt,ey] at R;rw [← ey,nxt_nxt,ey];simp [hdK];have hc : cstep X Y = some (if q.kind = 1 then [pcut p n] else if p.kind = 1 then [pcut q n] else [],pleft p n :: x',pleft q n :: y'):=by simp [cstep,ex,ey,p3,q2,hn]
       obtain ⟨mx,hmx⟩ : ∃ m,d3 + n = m:=⟨_,rfl⟩;obtain ⟨my,hmy⟩ : ∃ m,e3 + n = m:=⟨_,rfl⟩;have ewx : Go.IntKind.i64.wrap ((d3 : Int) + (n : Int)) = (mx : Int):=by rw [Go.IntWalk.i64_in _ (by have:=R.cx.bnd;omega)];omega
       have ewy : Go.IntKind.i64.wrap ((e3 : Int) + (n : Int)) = (my : Int):=by rw [Go.IntWalk.i64_in _ (by have:=R.cy.bnd;omega)];omega
       have cxx:=R.cx.add (n:=n) (by omega);have cyy:=R.cy.add (n:=n) (by omega);rw [hmx] at cxx;rw [hmy] at cyy;have hf:=fin cxx cyy hc;have e5:=R.o 5000 (by decide) (by decide) (by decide);have e6:=R.o 5001 (by decide) (by decide) (by decide);have e7:=R.o 576 (by decide) (by decide) (by decide);have gx:=R.gx;have gy:=R.gy;by_cases p2 : p.kind = 2
       ·by_cases q1 : q.kind = 1
        ·simp only [q1,if_true] at hf
         simp [p2,q1];refine R.take p2 (n:=n) (by omega) (fun h7 R=>?_);rw [hmx] at R;have e5:=R.o 5000 (by decide) (by decide) (by decide);have e6:=R.o 5001 (by decide) (by decide) (by decide);have e7:=R.o 576 (by decide) (by decide) (by decide);simp;rw [← List.map_take];refine specPut_callC (L:=BL) (P:=BP) (D:=BD) (Hl:=H) (Hp:=G) (by omega) (by simp;omega) (by simp [e7,g7]) (by simp [e6,g6]) (fun Hp' h' k576 k5001 k5000 ko=>?_);have R:=R.rebase (h':=h') (ko 496 (by decide) (by decide) (by decide) (by decide)) (ko 544 (by decide) (by decide) (by decide) (by decide));simp [R.gy,ewy];refine Ent.refl ⟨_,_,_,_,_,hf.1,hf.2,H,Hp',?_⟩;rw [nbRun_snoc,hBe];have hpk : (pcut p n).signs = p.signs.take n:=by simp [pcut,p2]
         simp [nbStep,p2,hpk,R.gx,k576,k5001,k5000,e5,g5,List.map_take]
        ·have p1 : ¬ p.kind = 1:=by omega
         simp only [q1,p1,if_false] at hf;simp [p2,q1,gx,gy,ewx,ewy];refine Ent.refl ⟨_,_,_,_,_,hf.1,hf.2,H,G,?_⟩;simp [hBe,e5,e6,e7,g5,g6,g7]
       ·have p1 : p.kind = 1:=by omega
        by_cases q1 : q.kind = 1
        ·simp only [q1,if_true] at hf
         simp [p2,q1];have f2:=nbFlush_q (P:=BP) k3 k4 k5;have hpk : (pcut p n).n = n:=by simp [pcut,p2]
         refine specKeep_callC (n:=(n : Int)) (L:=BL) (P:=BP) (D:=BD) (Hl:=H) (Hp:=G) (by omega) (by omega) (by omega) (by omega) (fun q hq=>by have:=f2 q hq;omega) (by simp [e7,g7]) (by simp [e5,g5]) (by simp [e6,g6]) (fun Hl' h' k576 k5000 ko=>?_);have R:=R.rebase (h':=h') (ko 496 (by decide) (by decide) (by decide) (by decide)) (ko 544 (by decide) (by decide) (by decide) (by decide));simp [R.gx,R.gy,ewx,ewy];refine Ent.kill 5001 (Ent.refl ⟨_,_,_,_,_,hf.1,hf.2,Hl',none,?_⟩);rw [nbRun_snoc,hBe];have n0 : 0 < n:=by omega
         simp [nbStep,p1,hpk,n0,k576,k5000]
        ·simp only [q1,p1,if_true,if_false] at hf
         simp [p2,q1];have q3 : q.kind = 3:=by omega
         have hpk : (pcut q n).n = n:=by simp [pcut,q2]
         refine specDrop_callC (n:=(n : Int)) (D:=BD) (by omega) (by omega) (e7.trans g7) (fun h' k576 ko=>?_);have R:=R.rebase (h':=h') (ko 496 (by decide)) (ko 544 (by decide));have h5:=ko 5000 (by decide);have h6:=ko 5001 (by decide);simp [R.gx,R.gy,ewx,ewy];refine Ent.refl ⟨_,_,_,_,_,hf.1,hf.2,H,G,?_⟩;rw [nbRun_snoc,hBe];simp [nbStep,q3,hpk,k576,h5,h6,e5,g5,e6,g6]
end Go.Proofs.Ytoldjebobgocpaa
