import Derived.Test.YtoldjebobgocpaaGreatPO
import Derived.Test.YtoldjebobgocpaaGreatMF
import Derived.Test.YtoldjebobgocpaaGreatPJ
import Derived.Test.YtoldjebobgocpaaGreatPI
import Derived.Test.YtoldjebobgocpaaGreatPM
import Derived.Test.YtoldjebobgocpaaGreatPK
import Derived.Test.YtoldjebobgocpaaGreatPG
import Derived.Test.YtoldjebobgocpaaGreatPH
import Derived.Test.YtoldjebobgocpaaGreatNA
import Derived.Test.YtoldjebobgocpaaGreatPF
import Derived.Test.YtoldjebobgocpaaGreatPL
import Derived.Test.YtoldjebobgocpaaGreatPE
import Derived.Test.YtoldjebobgocpaaGreatMH
import Derived.Shelf.RegionOpenPlain
namespace Go.AM
open Go.RowKit
mutual
def fz (k:Nat) (H:Hd) (sz:Nat) (rs:List (List CD)):AV->AV
 | .sl k' H' sz' off len=>if k'=k then (if H'=H/\sz'=sz/\off+len<=rs.length then .ro (cut rs off len) else .any) else .sl k' H' sz' off len
 | .agg l=>.agg (fzL k H sz rs l)
 | .tup l=>.tup (fzL k H sz rs l)
 | .clo f l=>.clo f (fzL k H sz rs l)
 | .any=>.any
 | .un=>.un
 | .nil=>.nil
 | .v u=>.v u
 | .ro r=>.ro r
 | .p a b c=>.p a b c
 | .e a b c d e=>.e a b c d e
 | .rp r=>.rp r
 | .cv u n=>.cv u n
 | .ml a b c d=>.ml a b c d
 | .is u=>.is u
def fzL (k:Nat) (H:Hd) (sz:Nat) (rs:List (List CD)):List AV->List AV
 | []=>[]
 |a::l=>fz k H sz rs a::fzL k H sz rs l
end
theorem n5 (k:Nat) (H:Hd) (sz:Nat) (rs:List (List CD)):∀ (l:List AV) (i:Nat),(fzL k H sz rs l)[i]? = l[i]?.map (fz k H sz rs)
 | [],i=>by simp [fzL]
 |a::l,0=>by simp [fzL]
 |a::l,i+1=>by simp [fzL,n5 k H sz rs l i]
theorem nZ (k:Nat) (H:Hd) (sz:Nat) (rs:List (List CD)):∀ l:List AV,(fzL k H sz rs l).length=l.length
 | []=>rfl
 |a::l=>by simp [fzL,nZ k H sz rs l]
def fzO (k:Nat) (H:Hd) (sz:Nat) (rs:List (List CD)):AObj->AObj
 | .vars b T cells=>.vars b T (fzL k H sz rs cells)
 |o=>o
def fzT (k:Nat) (H:Hd) (sz:Nat) (rs:List (List CD)) (t:List (Nat×AV)):List (Nat×AV):=t.map λp=>(p.1,fz k H sz rs p.2)
def fzH (k:Nat) (H:Hd) (sz:Nat) (rs:List (List CD)):AH->AH
 | []=>[]
 |(i,o)::h=>(i,fzO k H sz rs o)::fzH k H sz rs h
theorem DN (k:Nat) (H:Hd) (sz:Nat) (rs:List (List CD)):∀ (t:List (Nat×AV)) (i:Nat),aD (fzT k H sz rs t) i=fz k H sz rs (aD t i)
 | [],i=>rfl
 | (j, v) :: t, i => by
   simp only [fzT,List.map_cons,aD]
   split
   ·rfl
   ·exact DN k H sz rs t i
theorem DO (k:Nat) (H:Hd) (sz:Nat) (rs:List (List CD)):∀ (h:AH) (i:Nat),AH.get (fzH k H sz rs h) i=fzO k H sz rs (AH.get h i)
 | [],i=>rfl
 | (j, o) :: h, i => by
   rw [fzH,aK,aK]
   split
   ·rfl
   ·exact DO k H sz rs h i
theorem yr (k:Nat) (H:Hd) (sz:Nat) (rs:List (List CD)) (o:AObj):(fzO k H sz rs o).blk=o.blk:=by cases o<;>rfl
theorem Cy {base:Bs} {h:AH} {w:World} {E:Nat->Nat->Prop} (HH:HRel base h w E) {k:Nat} {H:Hd} {sz:Nat} {rs:List (List CD)} {own:Bool} (hget:h.get k=.rows H sz rs own) {M':Nat->Prop} (hM:∀ c,M' c->h.M c/\(h.get k).blk≠some c)
 {av:AV} {u:Value} (hv:VRel w h.M av u):VRel w M' (fz k H sz rs av) u:=by
 have t:Tr h.M w M' w:=⟨Nat.le_refl _,λ_ _ _=>rfl,λc _ hc=>(hM c hc).1⟩
 induction hv with
 | agg l xs hs _ ih =>
   refine .agg _ _ (by rw [hs,nZ]) (λi av hi=>?_);rw [n5] at hi;obtain ⟨a,ha,rfl⟩:=Option.map_eq_some_iff.1 hi;exact ih i a ha
 | tup l xs hs _ ih =>
   refine .tup _ _ (by rw [hs,nZ]) (λi av hi=>?_);rw [n5] at hi;obtain ⟨a,ha,rfl⟩:=Option.map_eq_some_iff.1 hi;exact ih i a ha
 | clo f l xs hs _ ih =>
   refine .clo f _ _ (by rw [hs,nZ]) (λi av hi=>?_);rw [n5] at hi;obtain ⟨a,ha,rfl⟩:=Option.map_eq_some_iff.1 hi;exact ih i a ha
 | sl k' H' sz' off len x hx =>
   simp only [fz]
   split
   ·split
    ·rename_i hk hc
     obtain ⟨rfl,rfl,hlen⟩:=hc;subst hk;have ho:=HH.obj k';rw [hget] at ho;refine .ro _ _ ?_
     cases H' with
     | none =>
       obtain ⟨⟨a,rfl⟩,rfl⟩:=hx;rw [show rs=[] from ho,show cut ([]:List (List CD)) off 0=[] from by simp [cQ]];exact .empty _ _ (by intro h;cases h)
     | some q =>
       obtain ⟨b,o,C⟩:=q;obtain ⟨S0,hrd,hS0⟩:=gK ho ⟨k',by rw [hget];rfl⟩ hx hlen;refine hrd.weaken.map (λ_ _ _=>rfl) (λc hc _ hm=>?_);rcases hS0 c hc with e|e
       ·exact (hM c hm).2 (by rw [hget,e];rfl)
       ·exact e.2 (hM c hm).1
    ·exact .any _
   ·exact .sl _ _ _ _ _ _ hx
 |any x=>exact .any x
 |un=>exact .un
 |nil=>exact .nil
 |v u h=>exact .v u h
 |ro rows x h=>exact (VRel.ro rows x h).tr t
 |cv u len h=>exact .cv u len h
 |ml k H sz len x h=>exact .ml k H sz len x h
 |is u=>exact .is u
 |p k b c=>exact .p k b c
 |e k b o C sz r c=>exact .e k b o C sz r c
 |rp row b o cs T fr h1 h2 h3 h4=>exact (VRel.rp row b o cs T fr h1 h2 h3 h4).tr t
theorem Rep.freeze {w0:World} {base:Bs} {st:ASt} {a:Act} {w:World} (hR:Rep w0 base st a w) {k:Nat} {H:Hd} {sz:Nat} {rs:List (List CD)} {own:Bool} (hget:st.h.get k=.rows H sz rs own) :
 Rep w0 base { st with t:=fzT k H sz rs st.t,h:=(k,.dead)::fzH k H sz rs st.h } a w:=by
 obtain ⟨E,HH⟩:=hR.heap;have hg:∀ i,AH.get ((k,.dead)::fzH k H sz rs st.h) i=if i=k then .dead else fzO k H sz rs (st.h.get i):=λi=>by rw [aK,DO]
 have hM:∀ c,AH.M ((k,.dead)::fzH k H sz rs st.h) c->st.h.M c/\(st.h.get k).blk≠some c:=by
  rintro c ⟨i,hi⟩
  rw [hg] at hi
  split at hi
  ·cases hi
  ·rename_i hne
   rw [yr] at hi;exact ⟨⟨i,hi⟩,λhk=>hne (HH.inj _ _ c hi hk)⟩
 have t:Tr st.h.M w (AH.M ((k,.dead)::fzH k H sz rs st.h)) w:=⟨Nat.le_refl _,λ_ _ _=>rfl,λc _ hc=>(hM c hc).1⟩;refine ⟨hR.dfr,hR.size,λi=>?_,⟨λj=>if j=k then (λ_=>False) else E j,λi=>?_,λi j c hi hj=>?_,λi c hi=>?_,λi c hc=>?_,λi j c hi hj=>?_,λi c hc=>?_⟩,hR.below,hR.base_le⟩
 ·show VRel w _ (aD (fzT k H sz rs st.t) i) _
  rw [DN];exact Cy HH hget hM (hR.tmp i)
 ·rw [hg]
  by_cases hik:i=k
  ·rw [if_pos hik,if_pos hik];trivial
  ·rw [if_neg hik,if_neg hik]
   have ho:=HH.obj i
   cases hoi:st.h.get i with
   | vars b T cells =>
     rw [hoi] at ho;obtain ⟨cs,h1,h2,h3⟩:=ho;refine ⟨cs,h1,by rw [h2,nZ],λj av hj=>?_⟩;rw [n5] at hj;obtain ⟨x,hx,rfl⟩:=Option.map_eq_some_iff.1 hj;exact Cy HH hget hM (h3 j x hx)
   |dead=>trivial
   |rows H2 sz2 rows2 own2=>rw [hoi] at ho;exact ho.tr t (λ_ _=>rfl) (λc hc _=>hc)
   |lent H2 sz2 rows2=>rw [hoi] at ho;exact ho.tr t (λ_ _=>rfl) (λc hc _=>hc)
   |part H2 sz2 rows2 lo=>rw [hoi] at ho;exact ho.tr t (λ_ _=>rfl) (λc hc _=>hc)
 ·rw [hg] at hi hj
  split at hi
  ·cases hi
  ·split at hj
   ·cases hj
   ·rw [yr] at hi hj;exact HH.inj _ _ c hi hj
 ·rw [hg] at hi
  split at hi
  ·cases hi
  ·rw [yr] at hi;exact HH.low i c hi
 ·split at hc
  ·exact hc.elim
  ·exact HH.elow i c hc
 ·split at hi
  ·exact hi.elim
  ·split at hj
   ·exact hj.elim
   ·exact HH.einj _ _ c hi hj
 ·split at hc
  ·exact hc.elim
  ·exact λhm=>HH.em i c hc (hM c hm).1
theorem am.freeze {E:Env} {id:Nat} {ops:List Oper} {Q:Exit->ASt->Prop} {n kb:Nat} {t:List (Nat×AV)} {h:AH} (k:Nat) {H:Hd} {sz:Nat} {rs:List (List CD)} {own:Bool} (hget:h.get k=.rows H sz rs own)
 (h2:am E id ops Q ⟨n,kb,fzT k H sz rs t,(k,.dead)::fzH k H sz rs h⟩):am E id ops Q ⟨n,kb,t,h⟩:=λa w hR=>h2 a w (hR.freeze (st:=⟨n,kb,t,h⟩) hget)
section rules
variable {k:Nat} {H:Hd} {sz:Nat} {rs:List (List CD)}
theorem KS:fzT k H sz rs []=[]:=(rfl)
theorem IG {i:Nat} {v:AV} {t:List (Nat×AV)}:fzT k H sz rs ((i,v)::t)=(i,fz k H sz rs v)::fzT k H sz rs t:=(rfl)
theorem IL {i:Nat} {o:AObj} {h:AH}:fzH k H sz rs ((i,o)::h)=(i,fzO k H sz rs o)::fzH k H sz rs h:=(rfl)
theorem KW:fzH k H sz rs []=[]:=(rfl)
theorem AJ:∀ (W:dY) (i:Nat),fzH k H sz rs (fA i W)=fA i W
 | [],i=>rfl
 | q :: l, i => by
   have e:∀ xs:List Value,fzL k H sz rs (xs.map .is)=xs.map .is:=by
    intro xs
    induction xs with
    |nil=>rfl
    |cons x xs ih=>simp [fzL,fz,ih]
   simp [fA,fzH,phO,fzO,e,AJ l]
theorem KU {W:dY}:fzH k H sz rs (phs W)=phs W:=AJ W _
theorem IH {b:Nat} {T:TypeId} {l:List AV}:fzO k H sz rs (.vars b T l)=.vars b T (fzL k H sz rs l):=(rfl)
theorem II {H':Hd} {sz':Nat} {r:List (List CD)} {own:Bool}:fzO k H sz rs (.rows H' sz' r own)=.rows H' sz' r own:=(rfl)
theorem IJ:fzO k H sz rs .dead=.dead:=(rfl)
theorem KT:fzL k H sz rs []=[]:=by simp [fzL]
theorem IK {a:AV} {l:List AV}:fzL k H sz rs (a::l)=fz k H sz rs a::fzL k H sz rs l:=by rw [fzL]
theorem Ub {u:Value}:fz k H sz rs (.v u)=.v u:=by rw [fz]
theorem OF:fz k H sz rs .any=.any:=by rw [fz]
theorem RG:fz k H sz rs .un=.un:=by rw [fz]
theorem OD:fz k H sz rs .nil=.nil:=by rw [fz]
theorem RJ {r:List (List CD)}:fz k H sz rs (.ro r)=.ro r:=by rw [fz]
theorem RI {r:List CD}:fz k H sz rs (.rp r)=.rp r:=by rw [fz]
theorem RL {u:Value} {n:Nat}:fz k H sz rs (.cv u n)=.cv u n:=by rw [fz]
theorem RK {a c d:Nat} {b:Hd}:fz k H sz rs (.ml a b c d)=.ml a b c d:=by rw [fz]
theorem Uc {a b c:Nat}:fz k H sz rs (.p a b c)=.p a b c:=by rw [fz]
theorem Ud {a c d e:Nat} {b:Hd}:fz k H sz rs (.e a b c d e)=.e a b c d e:=by rw [fz]
theorem OG {l:List AV}:fz k H sz rs (.agg l)=.agg (fzL k H sz rs l):=by rw [fz]
theorem OC {l:List AV}:fz k H sz rs (.tup l)=.tup (fzL k H sz rs l):=by rw [fz]
theorem OE {f:Nat} {l:List AV}:fz k H sz rs (.clo f l)=.clo f (fzL k H sz rs l):=by rw [fz]
theorem RH {k' sz' off len:Nat} {H':Hd}:fz k H sz rs (.sl k' H' sz' off len)=if k'=k then (if H'=H/\sz'=sz/\off+len<=rs.length then .ro (cut rs off len) else .any) else .sl k' H' sz' off len:=by rw [fz]
end rules
attribute [simp] KS IG IL KW KU IH II IJ KT IK Ub OF RG OD RJ RI RL RK Uc Ud OG OC OE RH
open Go.RowKit
theorem qN {E:Env} {f:Nat} {args:List VD} {R:RR->Prop} (k:Nat) (hc:dD E.P f args R) {avs:List AV} {st:ASt} {dst:Option Nat} {K:ASt->Prop} {H:Hd} {sz:Nat} {rs:List (List CD)} {own:Bool}
 (hget:st.h.get k=.rows H sz rs own) (hin:kM E.rd [] (fzL k H sz rs avs) args)
 (hout:∀ rr,R rr->aW { st with h:=(k,.dead)::st.h } dst (roR rr) K):aa E f avs st dst K:=by
 have A:=dA hc (avs:=fzL k H sz rs avs) (st:={ st with h:=(k,.dead)::st.h }) (dst:=dst) (K:=K) hin hout;refine ⟨hc.1,λa w hR xs hs hx=>?_⟩;obtain ⟨Es,hH⟩:=hR.heap;have t:=Tr.kill hH k
 have hM:∀ c,AH.M ((k,.dead)::st.h) c->st.h.M c/\(st.h.get k).blk≠some c:=by
  intro c hc;rcases gH.1 hc with h1|⟨j,hne,hj⟩
  ·cases h1
  ·exact ⟨⟨j,hj⟩,λhk=>hne (hH.inj _ _ c hj hk)⟩
 have hR1:Rep E.w0 E.base { st with h:=(k,.dead)::st.h } a w:=⟨hR.dfr,hR.size,λi=>(hR.tmp i).tr t,⟨_,hH.kill k⟩,hR.below,hR.base_le⟩
 have hfz:∀ i av,(fzL k H sz rs avs)[i]? = some av->VRel w (AH.M ((k,.dead)::st.h)) av (xs.getD i undef):=by
  intro i av hi;rw [n5] at hi;obtain ⟨x,hx2,rfl⟩:=Option.map_eq_some_iff.1 hi;exact Cy hH hget hM (hx i x hx2)
 refine (A.2 a w hR1 xs (by rw [nZ];exact hs) hfz).mono ?_
 rintro e w' ⟨v,av,h',h1,h2,h3,h4,h5⟩
 exact ⟨v,av,h',h1,h2,h3,λhl=>t.trans (h4 hl),h5⟩
theorem aq.ent {E:Env} {body:Code} {Q:Exit->ASt->Prop} {st:ASt} (h:Ent E st (aq E body Q)):aq E body Q st:=λa w hR=>by
 obtain ⟨st',h1,h2⟩:=h a w hR;exact h1 a w h2
end Go.AM
namespace Go.Proofs.YtoldjebobgocpaaGreat
open Go.AM
set_option maxRecDepth 20000
set_option maxHeartbeats 6400000
theorem Fp {l:List Nat} {k:Nat}:cut (l.map nR) 0 k=(l.take k).map nR:=by rw [cQ,List.drop_zero,List.map_take]
theorem ul (r:Ring) (hl:cR r<=2 ^ 30) (n:Int):dD Tryz.prog 304 [.agg r.row,.c (vi n)] (λrr=>rr=.tup [.agg (bj r n).1.res,.c (.s ((bj r n).2.1.map Entry.row)) 3,.c (vi (bj r n).2.2) 1]):=by
 refine dD.intro ae Tryz.func304 (by kernel_rfl) rfl rfl rfl (Nat.le_of_ble_eq_true rfl) (λw0 base o=>?_);have hno:=@qg r n;have hout:=@lc r n;have hyes:=@k9 r n;have hnl:nL aS r.list<=2 ^ 30:=by unfold cR at hl;omega
 have hle:=aB hnl;simp [Ring.row];intro b2 b4;refine aa.ro (pt r hl) (by simp [Ring.row]) ?_;simp [Ring.res];intro b7;refine aa.ro (ga r (by omega)) (by simp [Ring.row]) ?_;by_cases c1:aZ r
 rotate_left
 ·simp [ab c1,hno (λh=>c1 h.1)]
 simp [c1];by_cases c2:1<=n
 rotate_left
 ·have c2':n<1:=by omega
  simp [c2',hno (λh=>c2 h.2)]
 have c2':¬ n<1:=by omega
 simp [c2'];have hnx:=c1.2.2.1
 cases c3:r.out with
 |true=>simp [hout ⟨c1,c2⟩ c3,c3]
 |false=>
 simp;obtain ⟨m,rfl⟩:∃ m:Nat,n=m:=⟨n.toNat,by omega⟩;obtain ⟨k,hk0⟩:∃ k:Nat,min m r.list.length=k:=⟨_,rfl⟩;have hk:k<=r.list.length:=by omega
 have e1:=hyes ⟨c1,c2⟩ c3 (k:=k) (by simp;omega);have ew:Go.IntKind.i64.wrap (r.next+(k:Int))=r.next+k:=Go.IntWalk.i64_in _ (by omega);have cd:=iQ (l:=r.list) (k:=k) hk;have ct:=rA (l:=r.list) (k:=k) hk;rw [Jj,hk0];simp [hk,ew,cd,ct];rw [e1];simp [c3]
theorem vK (h:Hub) (hl:bX h<=2 ^ 28) (id n:Int):dD Tryz.prog 222 [.agg h.row,.c (vi id),.c (vi n)]
 (λrr=>rr=.tup [.agg (bo h id n).1.res,.c (.s ((bo h id n).2.1.map Entry.row)) 3,.c (vi (bo h id n).2.2) 1]):=by
 refine dD.intro ae Tryz.func222 (by kernel_rfl) rfl rfl rfl (Nat.le_of_ble_eq_true rfl) (λw0 base o=>?_);have hls:=aB (fB hl).2;simp [Hub.row];intro b3 b6;refine aa.ro (qb h (by omega) id) (by simp [Hub.row]) ?_;simp;refine aa.ro (dw h (by omega)) (by simp [Hub.row]) ?_;by_cases c1:ao h
 rotate_left
 ·simp [ab c1,jk (λh=>c1 h.1),Hub.res,Hub.zero]
 simp [c1];by_cases c2:1<=n
 rotate_left
 ·have c2':n<1:=by omega
  simp [c2',jk (λh=>c2 h.2),Hub.res,Hub.zero]
 have c2':¬ n<1:=by omega
 simp [c2'];rcases fW h.subs id with ⟨k,hk,e,-⟩|e;rotate_left
 ·simp [e,lj ⟨c1,c2⟩ e,Hub.res,Hub.zero]
 have hk0:¬ (k:Int)<0:=by omega
 have hat:=ni ⟨c1,c2⟩ hk e;have hm:=dO (f:=dX) (fB hl).2 hk;unfold dX at hm;have hmod:=nS hk;obtain ⟨s,hs⟩:∃ s,h.subs[k]=s:=⟨_,rfl⟩;rw [hs] at hat hm hmod;have hc:=ul s.r (by omega) n;generalize bj s.r n=R at hc hat;obtain ⟨r,list,code⟩:=R;simp only at hat hc;simp [e,hk0,hk,hs,Sub.row];refine dA hc (by simp [Ring.row]) ?_
 rintro _ rfl
 simp [Ring.res];intro b10;by_cases c3:code=0
 rotate_left
 ·rw [if_neg c3] at hat
  simp [c3,hat,Hub.res,Hub.zero]
 rw [if_pos c3] at hat;simp [c3];refine aa.pure (bP h (by omega)) (by simp [Hub.row]) ?_;simp [Hub.res,hk]
 try intros
 rw [hat];simp [hmod r]
theorem Az (h:Hub) (hl:bX h<=2 ^ 28) (c:Call) (hc:dv c<=2 ^ 28):dD Tryz.prog 116 [.agg h.row,.agg c.row] (λrr=>rr=.tup [.agg (fDo h c).1.res,.agg (fDo h c).2.res]):=by
 by_cases n6:c.kind=6
 rotate_left
 ·exact (E9 h hl c hc n6).toN
 refine dD.intro ae Tryz.func116 (by kernel_rfl) rfl rfl rfl (Nat.le_of_ble_eq_true rfl) (λw0 base o=>?_);have hcn:c.doc.size<=2 ^ 28/\nL aH c.o<=2 ^ 28/\c.text.length<=2 ^ 28:=by unfold dv at hc;omega
 simp [Hub.row,Call.row];intro b2 b3 b4 b5;refine aa.ro (dw h (by omega)) (by simp [Hub.row]) ?_;by_cases c1:ao h
 rotate_left
 ·simp [ab c1]
  refine aa.ro (bP h (by omega)) (by simp [Hub.row]) ?_;simp [Hub.res,lm (λh=>c1 h.1),Answer.res,bK]
 simp [c1];refine aa.ro (jK c (by omega)) (by simp [Call.row]) ?_;by_cases c2:bp c
 rotate_left
 ·simp [ab c2]
  refine aa.ro (bP h (by omega)) (by simp [Hub.row]) ?_;simp [Hub.res,lm (λh=>c2 h.2),Answer.res,bK]
 simp [c2];intro b6 b7;have hat:=LX ⟨c1,c2⟩ n6;have hd:=vK h (by omega) c.client c.n;generalize bo h c.client c.n=R at hd hat;obtain ⟨X,list,code⟩:=R;simp only at hd hat;simp [n6];refine dA hd (by simp [Hub.row]) ?_
 rintro _ rfl
 simp [Hub.res]
 try intros
 by_cases z:code=0
 ·rw [if_pos z] at hat
  simp [z];refine drw eok mix [0,1] [2,3] (.c 2 2 2 1 (.c 2 3 1 0 (.l 2 0) .s) .s) ?_;simp
  try intros
  rw [hat];simp [Answer.res]
 ·rw [if_neg z] at hat
  simp [z];refine drw eok mix [0,2,3,4] [1,5,6] (.c 4 1 8 7 (.c 4 5 0 7 (.c 4 6 7 0 (.l 4 0) .s) .s) .s) ?_;simp
  try intros
  refine aa.ro (bP h (by omega)) (by simp [Hub.row]) ?_;simp [Hub.res]
  try intros
  rw [hat];simp [Answer.res,bK]
set_option maxHeartbeats 12800000
theorem xc:∀ (l:List Call) {h:Hub},ao h->ao (cw h l).1
 | [],_,hh=>hh
 |c::l,_,hh=>xc l (ru hh c).1
theorem sa (h:Hub) (hh:ao h) (L:List Call) (hL:L.length<=10) (hc:∀ c∈L,dv c<=2 ^ 28) :
 dD Tryz.prog 34 [.agg h.row,.c (.s (L.map Call.row))] (λrr=>rr=.tup [.agg (cw h L).1.res,.c (.s ((cw h L).2.map Answer.row)) 4]):=by
 refine dD.intro ae Tryz.func34 (by kernel_rfl) rfl rfl rfl (Nat.le_of_ble_eq_true rfl) (λw0 base o=>?_);have hn:bX h<=2 ^ 28:=Nat.le_trans (dm hh).1 (by decide);simp [Hub.row];intro b2 b4;refine aa.ro (bP h (by omega)) (by simp [Hub.row]) ?_;simp [Hub.res];intro b6
 refine ag eok (λx:Nat×Hd×Bool=>x.1<=L.length) (λx=>⟨34,0,[(16,.v (.int .i64 x.1)),(15,.v (.int .i64 L.length)),(14,.ro (L.map Call.row)),(7,.sl 5000 x.2.1 4 0 (cw h (L.take x.1)).2.length),(6,.p 96 b6 0),(4,.p 64 b4 0)],
  (96,.vars b6 35 [.v (.bool (cw h (L.take x.1)).1.shut),.ro ((cw h (L.take x.1)).1.docs.map Doc.row),.ro ((cw h (L.take x.1)).1.subs.map Sub.row),.v (.int .i64 (cw h (L.take x.1)).1.last)])::(64,.vars b4 35 [.v (.bool false),.nil,.nil,.v (.int .i64 0)])::(5000,.rows x.2.1 4 ((cw h (L.take x.1)).2.map Answer.row) x.2.2)::phs o⟩) (λx=>L.length - x.1) (0,none,true) (by simp) (by simp [cw]) (λx hx=>Ent.refl ?_)
 obtain ⟨i,H,ow⟩:=x;simp only at hx ⊢;have hal:=po (L.take i) h;have hok:=xc (L.take i) hh;rw [List.length_take] at hal;by_cases hlt:i<L.length
 ·have hs:=nk (L.take i) h L[i]
  rw [List.take_append_getElem hlt] at hs;have hci:=hc _ (List.getElem_mem hlt);generalize hq:cw h (L.take i)=q at hal hok hs;obtain ⟨y,an⟩:=q;simp only at hal hok hs;have hny:bX y<=2 ^ 28:=Nat.le_trans (dm hok).1 (by decide);obtain ⟨c,hce⟩:∃ c,L[i]=c:=⟨_,rfl⟩;rw [hce] at hci hs;simp [hlt,hce,Call.row];intro b9;refine dA (Az y (by omega) c hci) (by simp [Hub.row,Call.row]) ?_
  rintro _ rfl
  simp [Hub.res,Answer.res];intro b10 b11 b29;refine ⟨by omega,λH2=>Ent.refl ⟨i+1,by omega,by omega,H2,Or.inl ?_⟩⟩;simp [hs,Answer.row];exact ah (by omega)
 ·have he:i=L.length:=by omega
  subst he;simp
theorem AA (a b:Task):ai Tryz.prog 47 [.agg a.row,.agg b.row] (.one (.c (vb (¬ a.rs = -1/\a.rs<b.inv)) 1)):=by
 refine pci ae Tryz.func47 (λw0 base=>?_);simp [Task.row];intro b1 b2;by_cases h:a.rs = -1
 ·have e:¬ (¬ a.rs = -1/\a.rs<b.inv):=λh'=>h'.1 h
  simp [h]
 ·have e:(¬ a.rs = -1/\a.rs<b.inv) ↔ a.rs<b.inv:=⟨λh'=>h'.2,λh'=>⟨h,h'⟩⟩
  simp [h]
set_option maxHeartbeats 1600000
theorem Hm {p q:Seen}:(p=q)=(p.client=q.client/\p.seq=q.seq/\p.rev=q.rev):=by
 cases p;cases q;simp
theorem BA (a b:List Seen) (hl:a.length<=2 ^ 40):ai Tryz.prog 226 [.c (.s (a.map Seen.row)),.c (.s (b.map Seen.row))] (.one (.c (vb (a=b)) 1)):=by
 refine pci ae Tryz.func226 (λw0 base=>?_);by_cases h:a.length=b.length
 ·simp [h]
  refine aq.intro eok (λi:Nat=>i<=a.length/\a.take i=b.take i) (λi=>⟨26,0,[(13,.v (.int .i64 i)),(12,.v (.int .i64 b.length)),(1,.ro (b.map Seen.row)),(0,.ro (a.map Seen.row))],[]⟩) (λi=>a.length - i) 0 (by simp) (by simp) (λi hi=>?_);by_cases hlt:i<a.length
  ·have hlt':i<b.length:=by omega
   simp [hlt'];refine am.quiet eok mix (by kernel_rfl) ?_;simp [hlt,hlt',Seen.row];have hx:=Hm (p:=a[i]) (q:=b[i]);by_cases h1:a[i]=b[i]
   ·have h2:=h1
    rw [hx] at h2;simp [h2];exact ⟨i+1,⟨by omega,fV hlt hlt' hi.2 h1⟩,by omega,ah (by omega)⟩
   ·have h2:=h1
    rw [hx] at h2;have h3:dc (a[i].client=b[i].client/\a[i].seq=b[i].seq/\a[i].rev=b[i].rev)=false:=by rw [cj];exact h2
    simp [h3,cj];exact mX hlt hlt' h1
  ·have hlt':¬ i<b.length:=by omega
   simp [hlt',iq];exact gZ (by omega) (by omega) hi.2
 ·have hz:¬ (a.length:Int)=b.length:=by omega
  simp [hz,cj];exact λh2=>absurd (by rw [h2]) h
theorem vM (p q:Doc) (hl:cq p<=2 ^ 40):ai Tryz.prog 121 [.agg p.row,.agg q.row] (.one (.c (vb (p=q)) 1)):=by
 refine pci ae Tryz.func121 (λw0 base=>?_);obtain ⟨n1,f1,t1,l1,s1⟩:=p;obtain ⟨n2,f2,t2,l2,s2⟩:=q;unfold cq at hl;simp only at hl;simp [Doc.row];intro b1 b2;by_cases h1:n1=n2
 ·by_cases h2:f1=f2
  ·simp [h1,h2]
   refine aa.pure (lu t1 t2 (by omega)) (by simp) ?_;by_cases h3:t1=t2
   ·simp [h3]
    refine aa.pure (iO l1 l2 (by omega)) (by simp) ?_;by_cases h4:l1=l2
    ·simp [h4]
     refine aa.pure (BA s1 s2 (by omega)) (by simp) ?_;simp
    ·simp [h4]
   ·simp [h3]
  ·simp [h1,h2]
 ·simp [h1]
set_option maxHeartbeats 3200000
theorem uj (p q:Ring) (hl:cR p<=2 ^ 40):ai Tryz.prog 227 [.agg p.row,.agg q.row] (.one (.c (vb (p=q)) 1)):=by
 refine pci ae Tryz.func227 (λw0 base=>?_);obtain ⟨n1,f1,t1,l1⟩:=p;obtain ⟨n2,f2,t2,l2⟩:=q;unfold cR at hl;simp only at hl;simp [Ring.row];intro b1 b2;by_cases h1:n1=n2
 rotate_left
 ·simp [h1]
 by_cases h2:f1=f2
 rotate_left
 ·simp [h1,h2]
 by_cases h3:t1=t2
 rotate_left
 ·cases t1<;>cases t2<;>simp_all
 simp [h1,h2,h3];refine aa.pure (iO l1 l2 (by omega)) (by simp) ?_;simp
theorem vI (p q:Sub) (hl:dX p<=2 ^ 40):ai Tryz.prog 123 [.agg p.row,.agg q.row] (.one (.c (vb (p=q)) 1)):=by
 refine pci ae Tryz.func123 (λw0 base=>?_);obtain ⟨n1,f1,r1⟩:=p;obtain ⟨n2,f2,r2⟩:=q;unfold dX at hl;simp only at hl;simp [Sub.row];intro b1 b2;by_cases h1:n1=n2
 rotate_left
 ·simp [h1]
 by_cases h2:f1=f2
 rotate_left
 ·simp [h1,h2]
 simp [h1,h2];refine aa.pure (uj r1 r2 (by omega)) (by simp [Ring.row]) ?_;simp
theorem uE (a b:List Doc) (hs:nL cq a<=2 ^ 40):ai Tryz.prog 120 [.c (.s (a.map Doc.row)),.c (.s (b.map Doc.row)),.c (.v (.func (.func 121) #[] #[]))] (.one (.c (vb (a=b)) 1)):=by
 have hl:=aB hs;refine pci ae Tryz.func120 (λw0 base=>?_);by_cases h:a.length=b.length
 ·simp [h]
  refine aq.intro eok (λi:Nat=>i<=a.length/\a.take i=b.take i) (λi=>⟨32,0,[(17,.v (.int .i64 i)),(16,.v (.int .i64 b.length)),(15,.ro (a.map Doc.row)),(2,.v (.func (.func 121) #[] #[])),(1,.ro (b.map Doc.row))],[]⟩) (λi=>a.length - i) 0 (by simp) (by simp) (λi hi=>?_);by_cases hlt:i<a.length
  ·have hlt':i<b.length:=by omega
   simp [hlt,hlt',Doc.row];intro b1 b2;refine aa.pure (vM a[i] b[i] (cU hs (List.getElem_mem hlt))) (by simp [Doc.row]) ?_;simp;refine Br.mk (λh1=>?_) (λh1=>?_)
   ·simp
    exact ⟨i+1,⟨by omega,fV hlt hlt' hi.2 (kU h1)⟩,by omega,ah (by omega)⟩
   ·simp [cj]
    exact mX hlt hlt' (oH h1)
  ·have hlt':¬ i<b.length:=by omega
   simp [hlt',iq];exact gZ (by omega) (by omega) hi.2
 ·have hz:¬ (a.length:Int)=b.length:=by omega
  simp [hz,cj];exact λh2=>absurd (by rw [h2]) h
theorem uD (a b:List Sub) (hs:nL dX a<=2 ^ 40):ai Tryz.prog 122 [.c (.s (a.map Sub.row)),.c (.s (b.map Sub.row)),.c (.v (.func (.func 123) #[] #[]))] (.one (.c (vb (a=b)) 1)):=by
 have hl:=aB hs;refine pci ae Tryz.func122 (λw0 base=>?_);by_cases h:a.length=b.length
 ·simp [h]
  refine aq.intro eok (λi:Nat=>i<=a.length/\a.take i=b.take i) (λi=>⟨32,0,[(17,.v (.int .i64 i)),(16,.v (.int .i64 b.length)),(15,.ro (a.map Sub.row)),(2,.v (.func (.func 123) #[] #[])),(1,.ro (b.map Sub.row))],[]⟩) (λi=>a.length - i) 0 (by simp) (by simp) (λi hi=>?_);by_cases hlt:i<a.length
  ·have hlt':i<b.length:=by omega
   simp [hlt,hlt',Sub.row];intro b1 b2;refine aa.pure (vI a[i] b[i] (cU hs (List.getElem_mem hlt))) (by simp [Sub.row]) ?_;simp;refine Br.mk (λh1=>?_) (λh1=>?_)
   ·simp
    exact ⟨i+1,⟨by omega,fV hlt hlt' hi.2 (kU h1)⟩,by omega,ah (by omega)⟩
   ·simp [cj]
    exact mX hlt hlt' (oH h1)
  ·have hlt':¬ i<b.length:=by omega
   simp [hlt',iq];exact gZ (by omega) (by omega) hi.2
 ·have hz:¬ (a.length:Int)=b.length:=by omega
  simp [hz,cj];exact λh2=>absurd (by rw [h2]) h
theorem oM (p q:Hub) (hl:bX p<=2 ^ 40):ai Tryz.prog 36 [.agg p.row,.agg q.row] (.one (.c (vb (p=q)) 1)):=by
 refine pci ae Tryz.func36 (λw0 base=>?_);obtain ⟨s1,d1,u1,l1⟩:=p;obtain ⟨s2,d2,u2,l2⟩:=q;unfold bX at hl;simp only at hl;simp [Hub.row];intro b1 b2;by_cases h1:s1=s2
 rotate_left
 ·cases s1<;>cases s2<;>simp_all
 by_cases h2:l1=l2
 rotate_left
 ·simp [h1,h2]
 simp [h1,h2];refine aa.pure (uE d1 d2 (by omega)) (by simp) ?_;by_cases h3:d1=d2
 rotate_left
 ·simp [h3]
 simp [h3];refine aa.pure (uD u1 u2 (by omega)) (by simp) ?_;simp
set_option maxHeartbeats 12800000
structure OrdF (h:Hub) (w:Wld) (O:List Nat) (T:List Task):Prop where
 len:T.length=O.length
 bd:∀ i,∀ hi:i<O.length,O[i]<w.tasks.length
 at_:∀ i,∀ hi:i<O.length,∀ hk:O[i]<w.tasks.length,T[i]'(by omega)=w.tasks[O[i]]
 fo:(fe w).map ak=O.map nR
 le:O.length<=w.tasks.length
 lin:iU h w ↔ (ao h/\ap w)/\xU T/\cw h (T.map Task.c)=(w.h,T.map Task.a)
theorem TW (h:Hub) (w:Wld):∃ O T,OrdF h w O T:=by
 have bd:∀ i,∀ hi:i<(bq w.tasks w.tasks.length).length,(bq w.tasks w.tasks.length)[i]<w.tasks.length:=λi hi=>eT (List.getElem_mem hi)
 refine ⟨bq w.tasks w.tasks.length,jH w.tasks,by unfold jH;rw [List.length_map],bd,λi hi hk=>?_,?_,mV _ _,Iff.rfl⟩
 ·unfold jH
  rw [List.getElem_map,o6 (bd i hi)]
 ·unfold fe;rw [List.map_map];rfl
theorem z8 {T:List Task} {n:Nat} (hn:T.length<=n) (h:∀ a b,∀ ha:a<T.length,a<n->∀ hb:b<a,¬ yX T[a] (T[b]'(by omega))):xU T:=λi j hi hj=>h i j hi (by omega) hj
theorem Kt {α:Type} {a b:List α} (hl:a.length=b.length) (h:∀ i,∀ hi:i<a.length,a[i]=b[i]'(by omega)):a=b:=List.ext_getElem hl (λi h1 _h2=>h i h1)
theorem qa (h:Hub) (hl:bX h<=2 ^ 30) (w:Wld) (hw:du w<=2 ^ 30):ai Tryz.prog 27 [.agg h.row,.agg w.row] (.one (.c (vb (iU h w)) 1)):=by
 refine xu rfl (dD.intro ae Tryz.func27 (by kernel_rfl) rfl rfl rfl (Nat.le_of_ble_eq_true rfl) (λw0 base o=>?_));simp [Hub.row,Wld.row];intro b2 b3;refine aa.ro (dw h hl) (by simp [Hub.row]) ?_;by_cases c1:ao h
 rotate_left
 ·have e:¬ iU h w:=λq=>c1 q.1.1
  simp [c1,ab e]
 simp [c1];refine aa.ro (eD w hw) (by simp [Wld.row]) ?_;by_cases c2:ap w
 rotate_left
 ·have e:¬ iU h w:=λq=>c2 q.1.2
  simp [c2,ab e]
 simp [c2];refine aa.ro (oL w hw c2.2.2.2.1) (by simp [Wld.row]) ?_;obtain ⟨O,T,F⟩:=TW h w;obtain ⟨f1,f2,f3,f4,f5,f6⟩:=F;have h10:=c2.2.2.2.1;obtain ⟨L,hL⟩:∃ L,T.map Task.c=L:=⟨_,rfl⟩;have hLl:L.length=O.length:=by rw [<- hL,List.length_map,f1]
 have hLn:∀ c∈L,dv c<=2 ^ 28:=λc hc=>by
  rw [<- hL] at hc;obtain ⟨t,ht,rfl⟩:=List.mem_map.1 hc;obtain ⟨k,hk,rfl⟩:=List.getElem_of_mem ht;rw [f3 k (by omega) (f2 k (by omega))];have:=ir (c2.1 _ (List.getElem_mem (f2 k (by omega)))).1;omega
 rw [f4];simp
 refine ag eok (λx:Nat×List Call×Hd×Bool=>x.1<=O.length/\x.2.1=L.take x.1/\∀ a b,∀ ha:a<T.length,a<x.1->∀ hb:b<a,¬ yX T[a] (T[b]'(by omega)))
  (λx=>⟨92,0,[(27,.v (.int .i64 x.1)),(26,.v (.int .i64 O.length)),(25,.ro (O.map nR)),(6,.sl 5000 x.2.2.1 7 0 x.2.1.length),(5,.ro (O.map nR)),(3,.p 48 b3 0),(2,.p 32 b2 0)],
   (48,.vars b3 39 [.v (.bool w.h.shut),.ro (w.h.docs.map Doc.row),.ro (w.h.subs.map Sub.row),.v (.int .i64 w.h.last),.ro (w.locks.map ak),.ro (w.queues.map Queue.row),.ro (w.tasks.map Task.row),.v (.int .i64 w.step)])::(32,.vars b2 35 [.v (.bool h.shut),.ro (h.docs.map Doc.row),.ro (h.subs.map Sub.row),.v (.int .i64 h.last)])::(5000,.rows x.2.2.1 7 (x.2.1.map Call.row) x.2.2.2)::phs o⟩) (λx=>O.length - x.1)
  (0,[],none,true) ⟨by simp,by simp,λa b ha h0=>absurd h0 (Nat.not_lt_zero _)⟩ (by simp) (λx hx=>Ent.refl ?_)
 obtain ⟨i,Q,Hh,ow⟩:=x;obtain ⟨x1,hQ,x2⟩:=hx;simp only at x1 hQ x2 ⊢;by_cases hlt:i<O.length
 ·have hk:=f2 i hlt
  have ht:=f3 i hlt hk;obtain ⟨k,hke⟩:∃ k,O[i]=k:=⟨_,rfl⟩;simp only [hke] at hk ht;obtain ⟨t,hte⟩:∃ t,w.tasks[k]=t:=⟨_,rfl⟩;rw [hte] at ht
  have hLi:Q++[t.c]=L.take (i+1):=by
   rw [hQ,<- List.take_append_getElem (l:=L) (i:=i) (by omega)]
   congr 2
   subst hL;rw [List.getElem_map,ht]
  have hQl:Q.length=i:=by rw [hQ,List.length_take];omega
  simp [hlt,hke,nR,hk,hte,Task.row];intro bA;refine ⟨by omega,λH2=>?_⟩;simp [Fp];refine ⟨by omega,?_⟩
  refine ag eok (λj:Nat=>j<=i/\∀ b,∀ hb:b<T.length,b<j->¬ yX t T[b]) (λj=>⟨92,0,[(45,.v (.int .i64 j)),(44,.v (.int .i64 i)),(43,.ro ((O.take i).map nR)),(8,.v (.int .i64 k)),(27,.v (.int .i64 i)),(26,.v (.int .i64 O.length)),(25,.ro (O.map nR)),(6,.sl 5000 H2 7 0 (Q++[t.c]).length),(5,.ro (O.map nR)),(3,.p 48 b3 0),(2,.p 32 b2 0)],(48,.vars b3 39 [.v (.bool w.h.shut),.ro (w.h.docs.map Doc.row),.ro (w.h.subs.map Sub.row),.v (.int .i64 w.h.last),.ro (w.locks.map ak),.ro (w.queues.map Queue.row),.ro (w.tasks.map Task.row),.v (.int .i64 w.step)])::(32,.vars b2 35 [.v (.bool h.shut),.ro (h.docs.map Doc.row),.ro (h.subs.map Sub.row),.v (.int .i64 h.last)])::(5000,.rows H2 7 ((Q++[t.c]).map Call.row) false)::phs o⟩) (λj=>i - j) 0 ⟨by simp,λb hb h0=>absurd h0 (Nat.not_lt_zero _)⟩ (by simp [Call.row];try omega) (λj hj=>Ent.refl ?_)
  obtain ⟨x3,x4⟩:=hj;by_cases hj:j<i
  ·have hjO:j<O.length:=by omega
   have hk2:=f2 j hjO;have ht2:=f3 j hjO hk2;obtain ⟨k2,hke2⟩:∃ k2,O[j]=k2:=⟨_,rfl⟩;simp only [hke2] at hk2 ht2;obtain ⟨u,hue⟩:∃ u,w.tasks[k2]=u:=⟨_,rfl⟩;rw [hue] at ht2;have hmn:min i O.length=i:=by omega
   simp [hj,hke2,nR,hmn];refine am.quiet eok mix (by kernel_rfl) ?_;simp [hk,hk2,hte,hue,Task.row];refine ⟨_,_,AA t u,by simp [Task.row],?_⟩;by_cases q:¬ t.rs = -1/\t.rs<u.inv
   ·have e:¬ iU h w:=λz=>(f6.1 z).2.1 i j (by omega) hj (by rw [ht,ht2];exact q)
    simp [q,ab e]
   ·simp [ab q]
    refine Ent.refl ⟨j+1,⟨by omega,λb hb hbj=>?_⟩,by omega,by simp [Call.row];exact ah (by omega)⟩;by_cases z:b=j
    ·subst z;rw [ht2];exact q
    ·exact x4 b hb (by omega)
  simp [hj];refine Ent.refl ⟨i+1,Q++[t.c],⟨by omega,hLi,?_⟩,by omega,H2,Or.inl ?_⟩;rotate_left
  ·simp
   exact ah (by omega)
  intro a b ha hai hb;by_cases q:a=i
  ·subst q
   rw [ht];exact x4 b (by omega) (by omega)
  ·exact x2 a b ha (by omega) hb
 have hie:i=O.length:=by omega
 subst hie;have hna:=z8 (Nat.le_of_eq f1) x2;have hQL:Q=L:=by rw [hQ,List.take_of_length_le (by omega)]
 subst hQL;simp;refine qN (H:=Hh) (sz:=7) (rs:=Q.map Call.row) (own:=ow) 5000 (sa h c1 Q (by omega) hLn) (by simp) (by simp [Hub.row]) ?_
 rintro _ rfl
 simp [Hub.res];intro b11;have hal:=po Q h;have hn2:bX (cw h Q).1<=2 ^ 40:=by have:=uC (B:=2 ^ 28) (Nat.le_refl _) Q h (Nat.le_trans (dm c1).1 (by decide));omega
 have han:∀ a∈(cw h Q).2,cM a<=2 ^ 24:=(uC (B:=2 ^ 28) (Nat.le_refl _) Q h (Nat.le_trans (dm c1).1 (by decide))).2
 have hlin:iU h w ↔ (cw h Q).1=w.h/\(cw h Q).2=T.map Task.a:=by
  rw [f6,hL]
  constructor
  ·rintro ⟨-,-,e⟩;rw [e];exact ⟨rfl,rfl⟩
  ·rintro ⟨e1,e2⟩;exact ⟨⟨c1,c2⟩,hna,Prod.ext e1 e2⟩
 generalize cw h Q=q at hal hn2 han hlin;obtain ⟨e,an⟩:=q;simp only at hal hn2 han hlin
 refine ag eok (λi:Nat=>i<=O.length/\∀ a,∀ ha:a<an.length,a<i->an[a]=(T[a]'(by omega)).a)
  (λi=>⟨92,0,[(70,.v (.int .i64 i)),(69,.v (.int .i64 O.length)),(68,.ro (O.map nR)),(12,.ro (an.map Answer.row)),(11,.p 176 b11 0),(3,.p 48 b3 0)],
   (176,.vars b11 35 [.v (.bool e.shut),.ro (e.docs.map Doc.row),.ro (e.subs.map Sub.row),.v (.int .i64 e.last)])::(48,.vars b3 39 [.v (.bool w.h.shut),.ro (w.h.docs.map Doc.row),.ro (w.h.subs.map Sub.row),.v (.int .i64 w.h.last),.ro (w.locks.map ak),.ro (w.queues.map Queue.row),.ro (w.tasks.map Task.row),.v (.int .i64 w.step)])::(32,.vars b2 35 [.v (.bool h.shut),.ro (h.docs.map Doc.row),.ro (h.subs.map Sub.row),.v (.int .i64 h.last)])::phs o⟩) (λi=>O.length - i)
  0 ⟨by simp,λa ha h0=>absurd h0 (Nat.not_lt_zero _)⟩ (by simp) (λi hi=>Ent.refl ?_)
 obtain ⟨x1,x2⟩:=hi;by_cases hlt:i<O.length
 ·have hk:=f2 i hlt
  have ht:=f3 i hlt hk;obtain ⟨k,hke⟩:∃ k,O[i]=k:=⟨_,rfl⟩;simp only [hke] at hk ht;obtain ⟨t,hte⟩:∃ t,w.tasks[k]=t:=⟨_,rfl⟩;rw [hte] at ht;have hai:i<an.length:=by omega
  obtain ⟨x,hxe⟩:∃ x,an[i]=x:=⟨_,rfl⟩;have hxn:=han _ (hxe ▸ List.getElem_mem hai);simp [hlt,hke,nR];refine am.quiet eok mix (by kernel_rfl) ?_;simp [hk,hte,hai,hxe,Task.row,Answer.row];refine ⟨_,_,df x t.a (by omega),by simp [Answer.row],?_⟩;by_cases q:x=t.a
  ·simp [q]
   refine Ent.refl ⟨i+1,⟨by omega,λa ha hai2=>?_⟩,by omega,by simp;exact ah (by omega)⟩;by_cases z:a=i
   ·subst z;rw [hxe,q,ht]
   ·exact x2 a ha (by omega)
  ·have e:¬ iU h w:=λz=>q (by
    have:=(hlin.1 z).2;subst this;rw [List.getElem_map,ht] at hxe;exact hxe.symm)
   simp [q,ab e]
 have hle:an=T.map Task.a:=Kt (by rw [List.length_map];omega) (λj hj=>by rw [List.getElem_map];exact x2 j hj (by omega));simp [hlt];refine aa.ro (oM e w.h hn2) (by simp [Hub.row]) ?_;have hfin:(e=w.h)=iU h w:=propext ⟨λz=>hlin.2 ⟨z,hle⟩,λz=>(hlin.1 z).1⟩;simp [hfin]
end Go.Proofs.YtoldjebobgocpaaGreat
namespace Go.AM
open Go.RowKit
theorem LR:∀ (l:List Value),AV.qL (l.map .is)=true
 | []=>rfl
 |_::l=>by simp [AV.q,LR l]
theorem tL:∀ (o:dY) (i:Nat),qH (fA i o)=true
 | [],_=>rfl
 |q::l,i=>by simp [fA,phO,AObj.q,LR,tL l]
@[simp] theorem TV (o:dY):qH (phs o)=true:=tL o _
theorem zd {P : Program} {Ty : Nat → Option TI} (hT : ∀ t ti, Ty t = some ti → TIok P t ti) {f : Nat} {fn : Func} {c : Code} (hf : P.funcs[f]? = some fn) (hname : (fn.name == "runtime.NumGoroutine") = false) (hb : fn.body = some c)
 {n:Nat} {rs:List ResultVar} (hnt:fn.ntmps=n) (hrs:fn.results=⟨rs⟩) {args:List VD} {R:RR->Prop} (hn:args.length<=n)
 (h:∀ w0 base o,eu ⟨P,Ty,w0,⟨base,base,true,λ_=>True⟩⟩ c (uU ⟨P,Ty,w0,⟨base,base,false,λ_=>True⟩⟩ o rs R) { n:=n,kb:=0,t:=kl 0 args,h:=phs o }):dD P f args R:=by
 subst hnt;have hrs':fn.results.toList=rs:=by rw [hrs]
 subst hrs';refine ⟨⟨fn,hf,hname,by rw [hb];rfl⟩,λw o xs ho hs hx=>calls_of_wp hf hb ?_⟩;have hE:EOk ⟨P,Ty,w,⟨λc=>c<w.heap.size/\o.off c,λc=>c<w.heap.size/\o.off c,true,λ_=>True⟩⟩:=⟨hT,λw' hb=>trivial⟩
 have hR:=BK ho (n:=fn.ntmps) (xs:=xs) (t:=kl 0 args) (by omega) (λq=>by
  rw [kj,if_pos (Nat.zero_le q),Nat.sub_zero]
  split
  ·rename_i v hv
   have hlt:q<xs.size:=by rw [hs];exact (List.getElem?_eq_some_iff.1 hv).1
   have e:(xs++Array.replicate (fn.ntmps - xs.size) undef).getD q undef=xs.getD q undef:=by
    simp only [Array.getD_eq_getD_getElem?];rw [Array.getElem?_append_left hlt]
   rw [e];exact (hx q v hv).ph
  ·exact .any _)
 refine wp_mono (bQ hE c _ _ _ w hR.loose (h w _ o)) ?_
 rintro e a' w' ⟨st',hq,hR'⟩
 cases e with
 |normal=>exact q4 hT ho hR'.loose hq
 |ret=>exact q4 hT ho hR'.loose hq
 |_=>exact hq.elim
end Go.AM
namespace Go.Proofs.YtoldjebobgocpaaGreat
open Go.AM Go.RowKit
set_option maxRecDepth 100000
set_option maxHeartbeats 4000000
set_option linter.unusedVariables false
set_option linter.unusedSimpArgs false
theorem ue (w:World) (us xs:List Value) (n i b o C bv ov Cv:Nat) (cs cv:Array Value) (T Tv:TypeId) (hul:us.length=n*2) (hxl:xs.length=2) (hi:i<n) (hroom:n+1<=C) (hC:C<=maxLen)
 (hb:w.heap[b]? = some (.cells cs T (0,0))) (hfit:o+C*2<=cs.size) (hcs:∀ j,j<n*2->cs.getD (o+j) undef=us.getD j undef) (h1:∀ v∈us,v.oneCell'=true)
 (hbv:w.heap[bv]? = some (.cells cv Tv (0,0))) (hCv:1<=Cv) (hfv:ov+Cv*2<=cv.size) (hcv:∀ j,j<2->cv.getD (ov+j) undef=xs.getD j undef) (h1v:∀ v∈xs,v.oneCell'=true) (hne:bv≠b) :
 Calls Tryz.prog 177 #[.slice (some ⟨b,o,none⟩) n C,.int .i64 i,.slice (some ⟨bv,ov,none⟩) 1 Cv] w λe w'=>
  e=.returned (.slice (some ⟨b,o,none⟩) (n+1) C)/\Placed w w' (some b) b o C (n+1) 2 (us.take (i*2)++xs++us.drop (i*2)):=by
 have u0:=run_underlying Tryz.underlying36;have mixed:Tryz.prog.follows .mixedOrders=true:=by kernel_rfl
 obtain ⟨i0,z0,hi0,hzs,hzb,hz0,hzc,-⟩:=(ae 166 _ sZ).info;have hzs:i0.size=2:=hzs;have hC63:C<=9223372036854775807:=by unfold maxLen at hC;omega
 have hz1:¬ ((1:Int)=0):=by omega
 have hz2:¬ ((i:Int)=(n:Int)):=by omega
 have hdl:(us.drop (i*2)).length=(n - i)*2:=by rw [List.length_drop,hul,Nat.sub_mul]
 have hov:∀ lb cb,(callFunc 273 #[.slice (some ⟨bv,ov,none⟩) 1 Cv,.slice (some ⟨b,o+(i*2+2),none⟩) lb cb]).run Tryz.prog w=.ok (.value (.bool false)) w:=λlb cb=>by
  rw [run_callFunc_extern Tryz.func273 (by kernel_rfl) (by kernel_rfl) (by kernel_rfl) (e:=Extern.SlicesOverlaps.overlaps #[36,36] #[4]) (by kernel_rfl),
   Lib.run_overlaps_apart w 36 4 166 Tryz.underlying36 2 Tryz.sizeOf166 ⟨bv,ov,none⟩ ⟨b,o+(i*2+2),none⟩ 1 Cv lb cb hne Tv T cv.size cs.size (by simp [World.shape?,hbv]) (by simp [World.shape?,hb]) (by omega) (by simp [World.frozen?,hbv]) (by simp [World.frozen?,hbv])]
  rfl
 have hmm:(n+1)*2<=C*2:=Nat.mul_le_mul_right _ hroom;have hii:i*2+2<=n*2:=by have:=Nat.mul_le_mul_right 2 (show i+1<=n by omega);omega
 have e1:(i+1)*2=i*2+2:=Nat.succ_mul i 2;have e2:(n+1)*2=n*2+2:=Nat.succ_mul n 2;have e3:(n - i)*2=n*2 - i*2:=Nat.sub_mul n i 2;obtain ⟨cs1,hcs1⟩:∃ c,c=(cs.toList.take (o+(i+1)*2)++us.drop (i*2)++cs.toList.drop (o+(i+1)*2+(us.drop (i*2)).length)).toArray:=⟨_,rfl⟩;obtain ⟨s1,g1⟩:=bO cs (o+(i+1)*2) (us.drop (i*2)) (by omega);rw [<- hcs1] at s1 g1
 have hcp1:∀ (W:World),W.heap=w.heap->∀ ty dl dc sl sc,Nat.min sl dl=n - i->(Builtin.copy_ #[36,36] ty #[.slice (some ⟨b,o+(i*2+2),none⟩) dl dc,.slice (some ⟨b,o+i*2,none⟩) sl sc]).run Tryz.prog W=.ok (goInt (n - i:Nat)) (W.setRow b cs1):=λW hW ty dl dc sl sc hm=>by
  have hb':W.heap[b]? = some (.cells cs T (0,0)):=by rw [hW];exact hb
  rw [hcs1,e1]
  exact d8 Tryz.underlying36 hi0 hb' ⟨b,o+i*2,none⟩ (us.drop (i*2)) (n - i) hm (by rw [hdl,hzs])
   (λj v hj=>by
    rw [Addr.add_lit];refine cW hb' (o:=o+i*2) (vs:=us.drop (i*2)) (λj hj=>?_) (by omega) j v hj;rw [Nat.add_assoc,hcs _ (by omega)];simp [List.getD_eq_getElem?_getD])
   (λv hv=>h1 v (List.mem_of_mem_drop hv)) (by omega)
 obtain ⟨cs2,hcs2⟩:∃ c,c=(cs1.toList.take (o+i*2)++xs++cs1.toList.drop (o+i*2+xs.length)).toArray:=⟨_,rfl⟩;obtain ⟨s2,g2⟩:=bO cs1 (o+i*2) xs (by omega);rw [<- hcs2] at s2 g2
 have hcp2:∀ (W:World),W.heap[b]? = some (.cells cs1 T (0,0))->W.heap[bv]? = some (.cells cv Tv (0,0))->∀ ty dl dc,0<dl->(Builtin.copy_ #[36,36] ty #[.slice (some ⟨b,o+i*2,none⟩) dl dc,.slice (some ⟨bv,ov,none⟩) 1 Cv]).run Tryz.prog W=.ok (goInt (1:Nat)) (W.setRow b cs2):=λW hW hWv ty dl dc hm=>by
  rw [hcs2]
  exact d8 Tryz.underlying36 hi0 hW ⟨bv,ov,none⟩ xs 1 (by simp only [Nat.min_def];split<;>omega) (by rw [hxl,hzs])
   (λj v hj=>by
    rw [Addr.add_lit];exact cW hWv (λj hj=>hcv j (by omega)) (by omega) j v hj)
   h1v (by omega)
 have hw1:IntKind.i64.wrap ((i:Int)+1)=(i:Int)+1:=by rw [IntKind.wrap_i64];omega
 have hb1:(0:Int)<=(i:Int)+1:=by omega
 have hin:i<=n:=by omega
 have htn:((i:Int)+1).toNat=i+1:=by omega
 have hb2:¬ (C=i+1):=by omega
 have hb3:(i:Int)<=(n:Int)+1:=by omega
 have hb4:¬ (C=i):=by omega
 go_enter Tryz.func177,Tryz.ntmps177
 go_wp2_with (simp only [hov])
 have hE:=hcp1 w.drew rfl 3 (n - i) (C - (i+1)) (n+1 - i) (C - i) (by simp only [Nat.min_def];split<;>omega);have hE2:=hcp2 (w.drew.setRow b cs1) (by simp [setRow_heap w.drew b cs cs1 T (0,0) hb]) (by rw [setRow_other w.drew b bv cs1 hne];exact hbv) 3 (n+1 - i) (C - i) (by omega)
 have hP:Placed w ((w.drew.setRow b cs1).setRow b cs2) (some b) b o C (n+1) 2 (us.take (i*2)++xs++us.drop (i*2)):=by
  refine ⟨⟨cs2,T,setRow_heap _ b cs1 cs2 T (0,0) (setRow_heap w.drew b cs cs1 T (0,0) hb),by omega,λj hj=>?_⟩,hroom,hC,by simp,⟨rfl,rfl,rfl⟩,.inr rfl,λc _ hc=>?_⟩
  ·rw [g2,g1]
   have hl:(us.take (i*2)).length=i*2:=by simp;omega
   simp only [List.getD_eq_getElem?_getD];rw [List.append_assoc];by_cases c1:j<i*2
   ·rw [if_neg (by omega),if_neg (by omega),List.getElem?_append_left (by omega),List.getElem?_take,if_pos c1,hcs j (by omega)]
    simp
   ·rw [List.getElem?_append_right (by omega),hl]
    by_cases c2:j<i*2+2
    ·rw [if_pos (by omega),List.getElem?_append_left (by omega)]
     congr 2
     omega
    ·rw [if_neg (by omega),if_pos (by omega),List.getElem?_append_right (by omega),List.getElem?_drop,List.getElem?_drop]
     congr 2
     omega
  ·rw [setRow_other _ b c _ hc,setRow_other _ b c _ hc];rfl
 clear hcs1 hcs2
 go_region
 go_wp2
 go_ret
 all_goals exact ⟨rfl,hP⟩
theorem lZ (w:World) (a:Option Addr) (n C bv ov Cv:Nat) (r:Value) (w1:World) (hnC:n<=C) (hC:C<=maxLen)
 (hr:∀ ty,(Builtin.append_ #[36,36] ty #[.slice a n C,.slice (some ⟨bv,ov,none⟩) 1 Cv]).run Tryz.prog w=.ok r w1) :
 Calls Tryz.prog 177 #[.slice a n C,.int .i64 n,.slice (some ⟨bv,ov,none⟩) 1 Cv] w λe w'=>e=.returned r/\w'=w1:=by
 have u0:=run_underlying Tryz.underlying36;have mixed:Tryz.prog.follows .mixedOrders=true:=by kernel_rfl
 have hC63:C<=9223372036854775807:=by unfold maxLen at hC;omega
 have hz1:¬ ((1:Int)=0):=by omega
 cases a with
 | none =>
   by_cases hc:C=n
   ·subst hc
    go_enter Tryz.func177,Tryz.ntmps177
    go_wp2_with (at_builtin;refine Lib.wpList_append_run _ rfl _ _ _ _ rfl _ _ rfl rfl _ _ (hr _) ?_)
    go_ret
    exact ⟨rfl,rfl⟩
   ·go_enter Tryz.func177,Tryz.ntmps177
    go_wp2_with (at_builtin;refine Lib.wpList_append_run _ rfl _ _ _ _ rfl _ _ rfl rfl _ _ (hr _) ?_)
    go_ret
    exact ⟨rfl,rfl⟩
 | some q =>
   by_cases hc:C=n
   ·subst hc
    go_enter Tryz.func177,Tryz.ntmps177
    go_wp2_with (at_builtin;refine Lib.wpList_append_run _ rfl _ _ _ _ rfl _ _ rfl rfl _ _ (hr _) ?_)
    go_ret
    exact ⟨rfl,rfl⟩
   ·go_enter Tryz.func177,Tryz.ntmps177
    go_wp2_with (at_builtin;refine Lib.wpList_append_run _ rfl _ _ _ _ rfl _ _ rfl rfl _ _ (hr _) ?_)
    go_ret
    exact ⟨rfl,rfl⟩
theorem vF (w:World) (us xs:List Value) (n i b o C bv ov Cv:Nat) (cs cv:Array Value) (T Tv:TypeId) (hul:us.length=n*2) (hxl:xs.length=2) (hi:i<n) (hnc:n<=C) (hroom:C<n+1) (hbig:(n+1)*oz.bytes<=140737488355328)
 (hb:w.heap[b]? = some (.cells cs T (0,0))) (hfit:o+C*2<=cs.size) (hcs:∀ j,j<n*2->cs.getD (o+j) undef=us.getD j undef) (h1:∀ v∈us,v.oneCell'=true)
 (hbv:w.heap[bv]? = some (.cells cv Tv (0,0))) (hCv:1<=Cv) (hfv:ov+Cv*2<=cv.size) (hcv:∀ j,j<2->cv.getD (ov+j) undef=xs.getD j undef) (h1v:∀ v∈xs,v.oneCell'=true) :
 Calls Tryz.prog 177 #[.slice (some ⟨b,o,none⟩) n C,.int .i64 i,.slice (some ⟨bv,ov,none⟩) 1 Cv] w λe w'=>
  ∃ nC,e=.returned (.slice (some ⟨w.heap.size,0,none⟩) (n+1) nC)/\Placed w w' (some b) w.heap.size 0 nC (n+1) 2 (us.take (i*2)++xs++us.drop (i*2)):=by
 have u0:=run_underlying Tryz.underlying36;have mixed:Tryz.prog.follows .mixedOrders=true:=by kernel_rfl
 obtain ⟨i0,z0,hi0,hzs,hzb,hz0,hzc,-⟩:=(ae 166 _ sZ).info;have hzz:=fU hzc;have hzs:i0.size=2:=hzs;have hzb:i0.bytes=oz.bytes:=hzb;have hby:0<oz.bytes:=by decide
 have hzz:z0.cells.size=2:=hzz;have hnb:(n+1)<=140737488355328:=Nat.le_trans (Nat.le_mul_of_pos_right _ hby) hbig;have hz1:¬ ((1:Int)=0):=by omega
 have hz2:¬ ((i:Int)=(n:Int)):=by omega
 have hz3:(C:Int)<(n:Int)+1:=by omega
 have hmm:n*2<=C*2:=Nat.mul_le_mul_right _ hnc;have hii:i*2+2<=n*2:=by have:=Nat.mul_le_mul_right 2 (show i+1<=n by omega);omega
 have e1:(i+1)*2=i*2+2:=Nat.succ_mul i 2;have e2:(n+1)*2=n*2+2:=Nat.succ_mul n 2;have e3:(n - i)*2=n*2 - i*2:=Nat.sub_mul n i 2;have hdl:(us.drop (i*2)).length=(n - i)*2:=by rw [List.length_drop,hul,Nat.sub_mul]
 have htl:(us.take (i*2)).length=i*2:=by simp;omega
 have hbw:b<w.heap.size:=db hb;have hvw:bv<w.heap.size:=db hbv;have hkk:(n:Int)+1 - (i:Int)=((n+1 - i:Nat):Int):=by omega
 have hik:i+(n+1 - i)=n+1:=by omega
 have hold:(Builtin.firstCells i0.size i (.slice (some ⟨b,o,none⟩) i C)).run Tryz.prog w.drew=.ok (us.take (i*2)).toArray w.drew:=by
  rw [hzs]
  exact run_firstCells_some w.drew 2 i ⟨b,o,none⟩ i C (us.take (i*2)) (by rw [htl]) (λj v hj=>by
   rw [Addr.add_lit]
   exact cW (w:=w.drew) (o:=o) (vs:=us.take (i*2)) (cs:=cs) (T:=T) hb (λj hj=>by
    rw [hcs _ (by omega)];rw [htl] at hj;simp only [List.getD_eq_getElem?_getD,List.getElem?_take,if_pos hj]) (by omega) j v hj)
 have hrz:∀ ty,(Builtin.append_ #[36,3] ty #[.slice (some ⟨b,o,none⟩) i C,.int .i64 ((n:Int)+1 - (i:Int))]).run Tryz.prog w =
  .ok (.slice (some ⟨w.heap.size,0,none⟩) (n+1) (grownCap w (n+1) C 166)) (w.drew.alloc (.cells ((us.take (i*2)).toArray++Builtin.zeroCells z0.cells (n+1 - i)++Builtin.zeroCells z0.cells (grownCap w (n+1) C 166 - (n+1))) 166)):=λty=>by
  have h:=Lib.run_append_grow_zeros w 36 3 ty 166 i0 z0 .i64 .i64 Tryz.underlying36 Tryz.underlying3 hi0 hz0 (some ⟨b,o,none⟩) i C (us.take (i*2)) hold (n+1 - i) (by omega) (by omega) (by omega) (by omega) (by rw [hzb];have:=Nat.mul_le_mul_right oz.bytes (show n+1 - i<=n+1 by omega);omega) (by rw [hzb,hik];exact growslice_fits hroom hbig);rw [hik] at h;rw [hkk];exact h
 obtain ⟨G,hG⟩:∃ G,G=grownCap w (n+1) C 166:=⟨_,rfl⟩;obtain ⟨ROW,hROW⟩:∃ ROW:Array Value,ROW=(us.take (i*2)).toArray++Builtin.zeroCells z0.cells (n+1 - i)++Builtin.zeroCells z0.cells (G - (n+1)):=⟨_,rfl⟩;rw [<- hG] at hrz;rw [<- hROW] at hrz;have hGn:n+1<=G:=by rw [hG];exact grownCap_ge w _ _ _
 have hGm:G<=maxLen:=by rw [hG];exact grownCap_le_maxLen w (n+1) C 166 (by unfold maxLen;omega)
 have hG63:G<=9223372036854775807:=by unfold maxLen at hGm;omega
 have hRs:ROW.size=G*2:=by
  rw [hROW];simp only [Array.size_append,List.size_toArray,cu,hzz,htl];rw [<- Nat.add_mul,<- Nat.add_mul]
  congr 1
  omega
 have hGK:(n+1)*2<=G*2:=Nat.mul_le_mul_right _ hGn
 have hRg:∀ j,j<i*2->ROW.getD j undef=us.getD j undef:=by
  intro j hj;rw [hROW];simp only [Array.getD_eq_getD_getElem?];rw [Array.getElem?_append_left (by simp [cu];omega),Array.getElem?_append_left (by simp;omega)];simp [List.getElem?_take,hj,List.getD_eq_getElem?_getD]
 obtain ⟨W1,hW1⟩:∃ W1,W1=w.drew.alloc (.cells ROW 166):=⟨_,rfl⟩;rw [<- hW1] at hrz;have hN:W1.heap[w.heap.size]? = some (.cells ROW 166 (0,0)):=by rw [hW1];exact j7 w.drew _
 have hO:∀ c,c<w.heap.size->W1.heap[c]? = w.heap[c]?:=λc hc=>by rw [hW1];exact jf w.drew _ hc
 have hS:W1.heap.size=w.heap.size+1:=by rw [hW1];simp
 obtain ⟨cs1,hcs1⟩:∃ c,c=(ROW.toList.take (i*2)++xs++ROW.toList.drop (i*2+xs.length)).toArray:=⟨_,rfl⟩;obtain ⟨s1,g1⟩:=bO ROW (i*2) xs (by omega);rw [<- hcs1] at s1 g1
 have hcpA:=d8 (P:=Tryz.prog) (w:=W1) (ty:=3) Tryz.underlying36 hi0 (dl:=n+1 - i) (dc:=G - i) (o:=i*2) hN ⟨bv,ov,none⟩ (sl:=1) (sc:=Cv) xs 1 (by simp only [Nat.min_def];split<;>omega) (by rw [hxl,hzs])
  (λj v hj=>by
   rw [Addr.add_lit];exact cW (by rw [hO _ hvw];exact hbv) (λj hj=>hcv j (by omega)) (by omega) j v hj) h1v (by omega)
 rw [<- hcs1] at hcpA;have hN1:(W1.setRow w.heap.size cs1).heap[w.heap.size]? = some (.cells cs1 166 (0,0)):=setRow_heap _ _ _ _ _ _ hN;obtain ⟨cs2,hcs2⟩:∃ c,c=(cs1.toList.take (i*2+2)++us.drop (i*2)++cs1.toList.drop (i*2+2+(us.drop (i*2)).length)).toArray:=⟨_,rfl⟩;obtain ⟨s2,g2⟩:=bO cs1 (i*2+2) (us.drop (i*2)) (by omega);rw [<- hcs2] at s2 g2;have hbN:b≠w.heap.size:=by omega
 have hcpB:=d8 (P:=Tryz.prog) (w:=(W1.setRow w.heap.size cs1).drew) (ty:=3) Tryz.underlying36 hi0 (dl:=n - i) (dc:=G - (i+1)) (o:=i*2+2) hN1 ⟨b,o+i*2,none⟩ (sl:=n - i) (sc:=C - i) (us.drop (i*2)) (n - i) (by simp only [Nat.min_def];split<;>omega) (by rw [hdl,hzs])
  (λj v hj=>by
   rw [Addr.add_lit]
   have hb':(W1.setRow w.heap.size cs1).drew.heap[b]? = some (.cells cs T (0,0)):=by
    show (W1.setRow w.heap.size cs1).heap[b]? = _
    rw [setRow_other _ _ _ _ hbN,hO _ hbw];exact hb
   refine cW hb' (o:=o+i*2) (vs:=us.drop (i*2)) (λj hj=>?_) (by omega) j v hj;rw [Nat.add_assoc,hcs _ (by omega)];simp [List.getD_eq_getElem?_getD])
  (λv hv=>h1 v (List.mem_of_mem_drop hv)) (by omega)
 rw [<- hcs2] at hcpB
 have hP:Placed w ((W1.setRow w.heap.size cs1).drew.setRow w.heap.size cs2) (some b) w.heap.size 0 G (n+1) 2 (us.take (i*2)++xs++us.drop (i*2)):=by
  refine ⟨⟨cs2,166,setRow_heap _ _ cs1 cs2 _ (0,0) hN1,by omega,λj hj=>?_⟩,hGn,hGm,?_,?_,.inl (Nat.le_refl _),λc hc hne=>?_⟩
  ·rw [Nat.zero_add,g2,g1]
   simp only [List.getD_eq_getElem?_getD];rw [List.append_assoc];by_cases c1:j<i*2
   ·rw [if_neg (by omega),if_neg (by omega),List.getElem?_append_left (by omega),List.getElem?_take,if_pos c1,hRg j c1]
    simp [List.getD_eq_getElem?_getD]
   ·rw [List.getElem?_append_right (by omega),htl]
    by_cases c2:j<i*2+2
    ·rw [if_neg (by omega),if_pos (by omega),List.getElem?_append_left (by omega)]
    ·rw [if_pos (by omega),List.getElem?_append_right (by omega),List.getElem?_drop,List.getElem?_drop]
     congr 2
     omega
  ·simp [hS]
  ·rw [hW1];exact ⟨rfl,rfl,rfl⟩
  ·rw [setRow_other _ _ c _ hne]
   show (W1.setRow w.heap.size cs1).heap[c]? = _
   rw [setRow_other _ _ c _ hne,hO c hc]
 have hw1:IntKind.i64.wrap ((i:Int)+1)=(i:Int)+1:=by rw [IntKind.wrap_i64];omega
 have hb1:(0:Int)<=(i:Int)+1:=by omega
 have hin:i<=n:=by omega
 have htn:((i:Int)+1).toNat=i+1:=by omega
 have hGi:¬ (G=i):=by omega
 have hGim:¬ (G=i+1):=by omega
 have hci:¬ (C=i):=by omega
 have hb3:(i:Int)<=(n:Int):=by omega
 clear hkk hik hold hROW hG hcs1 hcs2 hN hN1 hO hS hRs hRg hW1
 go_enter Tryz.func177,Tryz.ntmps177
 go_wp2_with (first
  |(at_builtin;refine Lib.wpList_append_run _ rfl _ _ _ _ rfl _ _ rfl rfl _ _ (hrz _) ?_)
  |(at_builtin;refine iA _ rfl _ _ 36 36 rfl _ _ rfl rfl hcpA ?_))
 go_region
 go_wp2
 go_ret
 all_goals exact ⟨_,rfl,hP⟩
theorem uf:sW Tryz.prog 177 2 oz.bytes:=by
 refine ⟨⟨_,Tryz.func177,by kernel_rfl,by kernel_rfl⟩,λw us xs n i s v ob bv0 hul hxl hi hbig hs hv hap=>?_⟩;obtain ⟨i0,z0,hi0,hzs,hzb,hz0,hzc,-⟩:=(ae 166 _ sZ).info;have hzz:=fU hzc;have hzs:i0.size=2:=hzs;have hzb:i0.bytes=oz.bytes:=hzb;have hby:0<oz.bytes:=by decide
 have hzz:z0.cells.size=2:=hzz;have hnb:(n+1)<=140737488355328:=Nat.le_trans (Nat.le_mul_of_pos_right _ hby) hbig;rcases hv with ⟨h0,-⟩|⟨bv,ov,Cv,cv,Tv,rfl,rfl,hbv,hCv,hCvm,hfv,hcv,h1v⟩
 ·omega
 have hcellv:∀ j v,xs[j]? = some v->w.cell? (Addr.add ⟨bv,ov,none⟩ j)=some v:=λj v hj=>by
  rw [Addr.add_lit];exact cW hbv (λj hj=>hcv j (by omega)) (by omega) j v hj
 have fresh:∀ (C0 nC:Nat) (rest:Array Value) (ob:Option Nat),n+1 <= nC -> nC <= maxLen -> rest.size=(nC - (n+1))*2 ->
  Placed w (w.drew.alloc (.cells (us.toArray++xs.toArray++rest) 166)) ob w.heap.size 0 nC (n+1) 2 (us.take (n*2)++xs++us.drop (n*2)):=by
  intro C0 nC rest ob h1 h2 h3;have e:nC*2=n*2+2+(nC - (n+1))*2:=by rw [<- Nat.succ_mul,<- Nat.add_mul];congr 1;omega
  refine ⟨⟨_,_,j7 w.drew _,by simp [hul,hxl,h3];omega,λj hj=>?_⟩,h1,h2,by simp,⟨rfl,rfl,rfl⟩,.inl (Nat.le_refl _),λc hc _=>jf w.drew _ hc⟩;rw [List.take_of_length_le (by omega),List.drop_eq_nil_of_le (by omega),List.append_nil,Nat.zero_add];have e2:(n+1)*2=n*2+2:=Nat.succ_mul n 2;simp only [Array.getD_eq_getD_getElem?,List.getD_eq_getElem?_getD];rw [Array.getElem?_append_left (by simp;omega),List.append_toArray,List.getElem?_toArray]
 rcases hs with ⟨rfl,rfl,a,rfl⟩|⟨b,o,C,cs,T,rfl,rfl,hb,hnC,hCm,hfit,hcs,h1⟩
 ·obtain rfl:i=0:=by omega
  have hun:us=[]:=List.eq_nil_of_length_eq_zero (by omega);subst hun;have hrun:=λty=>f0 (P:=Tryz.prog) (w:=w) (ty:=ty) Tryz.underlying36 hi0 hz0 a ⟨bv,ov,none⟩ 1 Cv xs (by rw [hxl,hzs]) hcellv (by omega) (by omega) (by rw [hzb];omega)
  refine (lZ w a 0 0 bv ov Cv _ _ (Nat.le_refl _) (by unfold maxLen;omega) hrun).mono ?_
  rintro e w' ⟨rfl,rfl⟩
  have hge:=grownCap_ge w 1 0 166;have hcm:=grownCap_le_maxLen w 1 0 166 (by unfold maxLen;omega);refine ⟨_,_,_,rfl,?_⟩;have:=fresh 0 (grownCap w 1 0 166) (Builtin.zeroCells z0.cells (grownCap w 1 0 166 - 1)) none hge hcm (by rw [cu,hzz])
  simpa using this
 ·by_cases hin:i=n
  ·subst hin
   by_cases hroom:i+1<=C
   ·have hmm:(i+1)*2<=C*2:=Nat.mul_le_mul_right _ hroom
    have e2:(i+1)*2=i*2+2:=Nat.succ_mul i 2;have hrun:=λty=>Go.AM.run_append_room (P:=Tryz.prog) (ty:=ty) (c:=Cv) (n:=i) (m:=1) Tryz.underlying36 hi0 hb ⟨bv,ov,none⟩ xs (by rw [hxl,hzs]) hcellv h1v hroom (by rw [hzs];exact hfit)
    refine (lZ w _ i C bv ov Cv _ _ hnC hCm hrun).mono ?_
    rintro e w' ⟨rfl,rfl⟩
    obtain ⟨g0,g⟩:=bO cs (o+i*i0.size) xs (by rw [hzs];omega);refine ⟨_,_,_,rfl,⟨_,_,setRow_heap w b cs _ T (0,0) hb,by rw [g0];exact hfit,λj hj=>?_⟩,hroom,hCm,by simp,⟨rfl,rfl,rfl⟩,.inr rfl,λc _ hc=>setRow_other w b c _ hc⟩;rw [g,hzs,List.take_of_length_le (by omega),List.drop_eq_nil_of_le (by omega),List.append_nil];by_cases c1:j<i*2
    ·rw [if_neg (by omega),hcs j c1]
     simp only [List.getD_eq_getElem?_getD];rw [List.getElem?_append_left (by omega)]
    ·rw [if_pos (by omega)]
     simp only [List.getD_eq_getElem?_getD];rw [List.getElem?_append_right (by omega)]
     congr 2
     omega
   ·have hrun:=λty=>run_append_grow (P:=Tryz.prog) w 36 ty 166 i0 z0 Tryz.underlying36 hi0 hz0 ⟨b,o,none⟩ i C us (by rw [hzs];exact hul) (λj v hj=>by
     rw [Addr.add_lit];have:=Nat.mul_le_mul_right 2 hnC;exact cW hb (λj hj=>hcs j (by omega)) (by omega) j v hj) ⟨bv,ov,none⟩ 1 Cv xs (by rw [hxl,hzs]) hcellv (by omega) (by omega) (by rw [hzb];exact growslice_fits (by omega) hbig)
    refine (lZ w _ i C bv ov Cv _ _ hnC hCm hrun).mono ?_
    rintro e w' ⟨rfl,rfl⟩
    have hge:=grownCap_ge w (i+1) C 166;have hcm:=grownCap_le_maxLen w (i+1) C 166 (by unfold maxLen;omega);exact ⟨_,_,_,rfl,fresh C _ _ _ hge hcm (by rw [cu,hzz])⟩
  ·by_cases hroom:n+1<=C
   ·refine (ue w us xs n i b o C bv ov Cv cs cv T Tv hul hxl (by omega) hroom hCm hb hfit hcs h1 hbv hCv hfv (λj hj=>hcv j (by omega)) h1v (λh=>hap b rfl (by rw [h]))).mono ?_
    rintro e w' ⟨rfl,hp⟩
    exact ⟨_,_,_,rfl,hp⟩
   ·refine (vF w us xs n i b o C bv ov Cv cs cv T Tv hul hxl (by omega) hnC (by omega) hbig hb hfit hcs h1 hbv hCv hfv (λj hj=>hcv j (by omega)) h1v).mono ?_
    rintro e w' ⟨nC,rfl,hp⟩
    exact ⟨_,_,_,rfl,hp⟩
end Go.Proofs.YtoldjebobgocpaaGreat
