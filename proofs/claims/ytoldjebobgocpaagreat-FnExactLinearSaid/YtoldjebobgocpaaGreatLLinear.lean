import Derived.Test.YtoldjebobgocpaaGreatKLinear
import Derived.Test.YtoldjebobgocpaaGreatPM
import Derived.Test.YtoldjebobgocpaaGreatNA
import Derived.Test.YtoldjebobgocpaaGreatMF
namespace Go.Proofs.YtoldjebobgocpaaGreat
open Go.AM Go.ChangeShapes Go.WideShapes Go.ChangeAt Go.RowKit
set_option maxRecDepth 20000
set_option maxHeartbeats 3200000 in
theorem v2 (a0 : Hub) (f0 : a0.fits) (a1 : Wld) (f1 : a1.fits) : ac Tryz.prog 5 [.agg a0.row,.agg a1.row] (.one (.c (.v (.bool true)) 1)):=by
 refine ac.introL ag Tryz.func5 (by kernel_rfl) rfl rfl rfl (Nat.le_of_ble_eq_true rfl) rfl (λw0 base us=>?_);simp [Hub.row,Wld.row];intro u0 u1 u2 u3 u4 u5 u6
 try intros
 refine aa.pure (y8 a0 f0 (2 ^ 20) (by omega)) (by simp [Hub.row,u0,u1]) ?_;by_cases k1 : bq a0<=2 ^ 20
 rotate_left
 ·rw [aH k1];simp
 rw [bu k1];obtain ⟨m1,hm1⟩ : ∃ m,2 ^ 20 - bq a0 = m:=⟨_,rfl⟩;rw [hm1];have n0 : bq a0<=2 ^ 20:=by omega
 simp;refine aa.pure (zX a1 f1 (m1) (by omega)) (by simp [Wld.row,u2,u3,u4,u5,u6]) ?_;by_cases k2 : cI a1<=m1
 rotate_left
 ·rw [aH k2];simp
 rw [bu k2];obtain ⟨m2,hm2⟩ : ∃ m,m1 - cI a1 = m:=⟨_,rfl⟩;rw [hm2];have n1 : cI a1<=2 ^ 20:=by omega
 simp;have hs:=tW a0 f0 n0 a1 f1 n1;have hi:=uw a0 f0 n0 a1 f1 n1;have hb:=Bg a0 f0 n0 a1 f1 n1;generalize uG a0 a1 = r at hs hi hb;have nn0 : bq a0<=2 ^ 40:=Nat.le_trans n0 (by decide);have nn1 : cI a1<=2 ^ 40:=Nat.le_trans n1 (by decide);refine jM eok mix (by kernel_rfl) ?_;simp;refine ⟨_,_,pr a0 (by omega),by simp [Hub.row,u0,u1],?_⟩;simp [Hub.res];refine ⟨_,_,nI a1 (by omega),by simp [Wld.row,u2,u3,u4,u5,u6],?_⟩;simp [Wld.res];refine ⟨_,_,hs,by simp [Hub.row,Wld.row],?_⟩;simp;refine aa.pure (pr a0 (by omega)) (by simp [Hub.row,u0,u1]) ?_;simp [Hub.res]
 try intros
 refine aa.pure (nI a1 (by omega)) (by simp [Wld.row,u2,u3,u4,u5,u6]) ?_;simp [Wld.res]
 try intros
 refine aa.pure hi (by simp [Hub.row,Wld.row]) ?_;simp
 try intros
 refine jM eok mix (by kernel_rfl) ?_;simp;refine ⟨_,_,pr a0 (by omega),by simp [Hub.row,u0,u1],?_⟩;simp [Hub.res];refine ⟨_,_,zH a0 a0 (by omega),by simp [Hub.row],?_⟩;simp;refine jM eok mix (by kernel_rfl) ?_;simp;refine ⟨_,_,nI a1 (by omega),by simp [Wld.row,u2,u3,u4,u5,u6],?_⟩;simp [Wld.res];refine ⟨_,_,Bh a1 a1 (by omega),by simp [Wld.row],?_⟩;simp
set_option maxRecDepth 100000 in
theorem kE (os : Os) (started : os.Started) (H : Type) (enc : TypeId × Value->H) :
 ReturnsInHanded {} Tryz.checked os 5 .any (Rows.fnExactLinearSpec.pre6 enc Tryz.prog Tryz.f5 Rows.fnExactLinearRow.domain false) (Rows.fnExactLinearSpec.post enc Tryz.prog Tryz.f5 false true false false):=by
 refine returnsInHanded_of_change (C:=Tryz.checked) own started (by kernel_rfl) Tryz.func5
  (ChangeSpec.witness6 (enc:=enc) (C:=Tryz.checked) false ⟨#[],#[.agg #[.bool false,.slice none 0 0,.slice none 0 0,.int .i64 0],.agg #[.bool false,.slice none 0 0,.slice none 0 0,.int .i64 0,.slice none 0 0,.slice none 0 0,.slice none 0 0,.int .i64 0]],[]⟩ 12 (by kernel_rfl) (by kernel_rfl) (by kernel_rfl) (by kernel_rfl)) ?_
 intro W base args ds gs before hval hW _ _;refine D0 (D:=16) Qr rfl rfl Tryz.underlying4 (by kernel_rfl) (by kernel_rfl) (λds h=>?_) hval hW (λvds ho=>?_)
 ·match ds,h with
  | [d0,d1],_=>rfl
 ·have ho0 : iI Tryz.prog 16 W [25,30] args.toList vds:=ho
  obtain ⟨v0,_,rfl,h0,_,ho1⟩:=ho0.cons;obtain ⟨v1,_,rfl,h1,_,ho2⟩:=ho1.cons;obtain rfl:=ho2.nil;obtain ⟨x0,rfl,y0⟩:=m8 Tryz.underlying25 (by rw [uV];decide) h0;obtain ⟨a0,rfl,e0⟩:=wt y0;obtain ⟨x1,rfl,y1⟩:=m8 Tryz.underlying30 (by rw [zM];decide) h1;obtain ⟨a1,rfl,e1⟩:=yq y1;exact v2 a0 e0 a1 e1
theorem fnExactLinear_holds : Rows.FnExactLinearSaid:=
 OpenClaim.holds_of_wide 5 Tryz.f5 rfl rfl rfl rfl rfl rfl rfl ⟨rfl,rfl,rfl,rfl,rfl⟩ rfl rfl rfl rfl rfl (by kernel_rfl) Tryz.func5 ug
  (of_decide_eq_true (by kernel_rfl)) (by unfold Func.isWrapper;first | (rw [if_pos (by decide +kernel)];kernel_rfl) | (rw [if_neg (by decide +kernel)];exact ⟨rfl,rfl⟩))
  (λos started H enc _=>kE os started H enc)
#print axioms fnExactLinear_holds
end Go.Proofs.YtoldjebobgocpaaGreat
