import Derived.Test.YtmfcmlldnjffeaaPC
import Derived.Test.YtmfcmlldnjffeaaPD
import Derived.Test.YtmfcmlldnjffeaaNA
import Derived.Test.YtmfcmlldnjffeaaMF
namespace Go.Proofs.Ytmfcmlldnjffeaa
open Go.AM Go.ChangeShapes Go.WideShapes Go.ChangeAt Go.RowKit
set_option maxRecDepth 20000
set_option maxHeartbeats 3200000 in
theorem jP (a0:Wld) (f0:a0.fits):ae Try.prog 3 [.agg a0.row] (.one (.c (.v (.bool true)) 1)):=by
 refine ae.introL an Try.func3 (by kernel_rfl) rfl rfl rfl (Nat.le_of_ble_eq_true rfl) rfl (λw0 base us=>?_);simp [Wld.row];intro u0 u1 u2 u3 u4
 try intros
 refine ag.pure (nM a0 f0 (2 ^ 20) (by omega)) (by simp [Wld.row,u0,u1,u2,u3,u4]) ?_;by_cases k1:be a0<=2 ^ 20
 rotate_left
 ·rw [ao k1];simp
 rw [aA k1];obtain ⟨m1,hm1⟩:∃ m,2 ^ 20 - be a0=m:=⟨_,rfl⟩;rw [hm1];have n0:be a0<=2 ^ 20:=by omega
 simp;have hs:=iO a0 f0 n0;have hi:=iT a0 f0 n0;have hb:=mp a0 f0 n0;generalize ci a0=r at hs hi hb;have nn0:be a0<=2 ^ 40:=Nat.le_trans n0 (by decide);have:=Wld.cntT_le a0;refine ag.pure (ew a0 (by omega)) (by simp [Wld.row,u0,u1,u2,u3,u4]) ?_;simp [Wld.res]
 try intros
 refine ag.pure hs (by simp [Wld.row]) ?_;simp
 try intros
 refine ag.pure (ew a0 (by omega)) (by simp [Wld.row,u0,u1,u2,u3,u4]) ?_;simp [Wld.res]
 try intros
 refine ag.pure hi (by simp [Wld.row]) ?_;simp
 try intros
 refine ag.pure (cj r r (by omega)) (by simp) ?_;simp;refine kl eok mix (by kernel_rfl) ?_;simp;refine ⟨_,_,ew a0 (by omega),by simp [Wld.row,u0,u1,u2,u3,u4],?_⟩;simp [Wld.res];refine ⟨_,_,oO a0 a0 (by omega),by simp [Wld.row],?_⟩;simp;refine ag.mark (kH a0 1 (by omega) (by omega) (by omega)) rfl (λ_ h=>h) (by simp) ?_;obtain ⟨c1,hc1⟩:∃ c,1+((a0.cntT:Nat):Int)=c:=⟨_,rfl⟩;have zc1:¬ c1<0:=by omega
 simp [Wld.markT,Wld.res,hc1,zc1];refine ag.pure (cj r r (by omega)) (by simp) ?_;simp;refine ag.mark (bU r 1 (by omega) (by omega)) rfl (λ_ h=>h) (by simp) ?_;obtain ⟨c2,hc2⟩:∃ c,1+((r.length:Nat):Int)=c:=⟨_,rfl⟩;have zc2:¬ c2<0:=by omega
 simp [hc2];refine ag.pure (ib r 1 (by omega) (by omega)) (by simp [aj]) ?_;simp [hc2,zc2];refine ag.pure (ew a0 (by omega)) (by simp [Wld.row,u0,u1,u2,u3,u4]) ?_;simp [Wld.res]
 try intros
 refine ag.pure hi (by simp [Wld.row]) ?_;simp
 try intros
 refine ag.pure (cj r r (by omega)) (by simp) ?_;simp;refine ag.pure (ib r 1 (by omega) (by omega)) (by simp [aj]) ?_;simp [hc2,zc2]
set_option maxRecDepth 100000 in
theorem dU (os:Os) (started:os.Started) (H:Type) (enc:TypeId×Value->H) :
 ReturnsInHanded {} Try.checked os 3 .any (Rows.fnExactOrderOfSpec.pre6 enc Try.prog Try.f3 Rows.fnExactOrderOfRow.domain false) (Rows.fnExactOrderOfSpec.post enc Try.prog Try.f3 false true false false):=by
 refine returnsInHanded_of_change (C:=Try.checked) own started (by kernel_rfl) Try.func3
  (ChangeSpec.witness6 (enc:=enc) (C:=Try.checked) false ⟨#[],#[.agg #[.bool false,.slice none 0 0,.slice none 0 0,.int .i64 0,.slice none 0 0,.slice none 0 0,.slice none 0 0,.int .i64 0]],[]⟩ 12 (by kernel_rfl) (by kernel_rfl) (by kernel_rfl) (by kernel_rfl)) ?_
 intro W base args ds gs before hval hW _ _;refine rk (D:=16) Dc rfl rfl Try.underlying4 (by kernel_rfl) (by kernel_rfl) (λds h=>?_) hval hW (λvds ho=>?_)
 ·match ds,h with
  | [d0],_=>rfl
 ·have ho0:dl Try.prog 16 W [30] args.toList vds:=ho
  obtain ⟨v0,_,rfl,h0,_,ho1⟩:=ho0.cons;obtain rfl:=ho1.nil;obtain ⟨x0,rfl,y0⟩:=jU Try.underlying30 (by rw [nv];decide) h0;obtain ⟨a0,rfl,e0⟩:=mh y0;exact jP a0 e0
theorem fnExactOrderOf_holds:Rows.FnExactOrderOfSaid:=
 OpenClaim.holds_of_wide 3 Try.f3 rfl rfl rfl rfl rfl rfl rfl ⟨rfl,rfl,rfl,rfl,rfl⟩ rfl rfl rfl rfl rfl (by kernel_rfl) Try.func3 (by kernel_rfl)
  (of_decide_eq_true (by kernel_rfl)) (by unfold Func.isWrapper;first|(rw [if_pos (by decide +kernel)];kernel_rfl)|(rw [if_neg (by decide +kernel)];exact ⟨rfl,rfl⟩))
  (λos started H enc _=>dU os started H enc)
#print axioms fnExactOrderOf_holds
end Go.Proofs.Ytmfcmlldnjffeaa
