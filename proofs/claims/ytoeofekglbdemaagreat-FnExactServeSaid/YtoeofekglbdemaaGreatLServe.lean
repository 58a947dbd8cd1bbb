import Derived.Test.YtoeofekglbdemaaGreatKServe
import Derived.Test.YtoeofekglbdemaaGreatPN
import Derived.Test.YtoeofekglbdemaaGreatNB
import Derived.Test.YtoeofekglbdemaaGreatMF
namespace Go.Proofs.YtoeofekglbdemaaGreat
open Go.AM Go.ChangeShapes Go.WideShapes Go.ChangeAt Go.RowKit
set_option maxRecDepth 20000
set_option maxHeartbeats 3200000 in
theorem lawServe_c (a0 : Wld) (f0 : a0.fits) (a1 : ByteArray) (f1 : a1.size≤9223372036854775807) : PureC Tryz.prog 3 [.agg a0.row,.c (.v (.string a1))] (.one (.c (.v (.bool true)) 1)):=by
 refine PureC.introL tt_ok Tryz.func3 (by kernel_rfl) rfl rfl rfl (Nat.le_of_ble_eq_true rfl) rfl (fun w0 base us=>?_);simp [Wld.row];intro u0 u1 u2 u3 u4
 try intros
 by_cases hbig1 : 1048576 < (a1.size : Int)
 ·simp [hbig1]
 have n1 : a1.size≤2 ^ 20:=by omega
 simp [hbig1];refine ACall.pure (szWorld_c a0 f0 (2 ^ 20) (by omega)) (by simp [Wld.row,u0,u1,u2,u3,u4]) ?_;by_cases k1 : nWorld a0≤2 ^ 20
 rotate_left
 ·rw [szR_no k1];simp
 rw [szR_ok k1];obtain ⟨m1,hm1⟩ : ∃ m,2 ^ 20 - nWorld a0 = m:=⟨_,rfl⟩;rw [hm1];have n0 : nWorld a0≤2 ^ 20:=by omega
 simp;have hs:=specServe_c a0 f0 n0 a1 f1 n1;have hi:=implServe_c a0 f0 n0 a1 f1 n1;have hb:=fServe_b a0 f0 n0 a1 f1 n1;generalize fServe a0 a1 = r at hs hi hb;obtain ⟨r0,r1⟩:=r;simp only at hs hi hb;have nn0 : nWorld a0≤2 ^ 40:=Nat.le_trans n0 (by decide);have nn1 : a1.size≤2 ^ 40:=Nat.le_trans n1 (by decide);have:=Wld.cntT_le a0;have:=Wld.cntT_le r0;refine ACall.pure (toWorld_c a0 (by omega)) (by simp [Wld.row,u0,u1,u2,u3,u4]) ?_;simp [Wld.res]
 try intros
 refine ACall.pure hs (by simp [Wld.row]) ?_;simp [Wld.res]
 try intros
 refine ACall.pure (toWorld_c a0 (by omega)) (by simp [Wld.row,u0,u1,u2,u3,u4]) ?_;simp [Wld.res]
 try intros
 refine ACall.pure hi (by simp [Wld.row]) ?_;simp [Wld.res]
 try intros
 refine ACall.pure (eqWorld_c r0 r0 (by omega)) (by simp [Wld.row]) ?_;simp;refine DrawT.quietH eok mix (by kernel_rfl) ?_;simp;refine ⟨_,_,toWorld_c a0 (by omega),by simp [Wld.row,u0,u1,u2,u3,u4],?_⟩;simp [Wld.res];refine ⟨_,_,eqWorld_c a0 a0 (by omega),by simp [Wld.row],?_⟩;simp;refine ACall.mark (markWorld_c a0 1 (by omega) (by omega) (by omega)) rfl (fun _ h=>h) (by simp) ?_;obtain ⟨c1,hc1⟩ : ∃ c,1 + ((a0.cntT : Nat) : Int) = c:=⟨_,rfl⟩;have zc1 : ¬ c1 < 0:=by omega
 simp [Wld.markT,Wld.res,hc1,zc1];refine ACall.pure (eqWorld_c r0 r0 (by omega)) (by simp [Wld.row]) ?_;simp;refine ACall.mark (markWorld_c r0 1 (by omega) (by omega) (by omega)) rfl (fun _ h=>h) (by simp) ?_;obtain ⟨c2,hc2⟩ : ∃ c,1 + ((r0.cntT : Nat) : Int) = c:=⟨_,rfl⟩;have zc2 : ¬ c2 < 0:=by omega
 simp [Wld.markT,Wld.res,hc2];refine ACall.pure (heldWorld_c r0 1 (by omega) (by omega) (by omega)) (by simp [markL_length,Wld.row,Wld.markT]) ?_;simp [hc2,zc2];refine ACall.pure (toWorld_c a0 (by omega)) (by simp [Wld.row,u0,u1,u2,u3,u4]) ?_;simp [Wld.res]
 try intros
 refine ACall.pure hi (by simp [Wld.row]) ?_;simp [Wld.res]
 try intros
 refine ACall.pure (eqWorld_c r0 r0 (by omega)) (by simp [Wld.row]) ?_;simp;refine ACall.pure (heldWorld_c r0 1 (by omega) (by omega) (by omega)) (by simp [markL_length,Wld.row,Wld.markT]) ?_;simp [hc2,zc2]
set_option maxRecDepth 100000 in
theorem fnExactServe_lifted (os : Os) (started : os.Started) (H : Type) (enc : TypeId × Value→H) :
 ReturnsInHanded {} Tryz.checked os 3 .any (Rows.fnExactServeSpec.pre6 enc Tryz.prog Tryz.f3 Rows.fnExactServeRow.domain false) (Rows.fnExactServeSpec.post enc Tryz.prog Tryz.f3 false true false false):=by
 refine returnsInHanded_of_change (C:=Tryz.checked) own started (by kernel_rfl) Tryz.func3
  (ChangeSpec.witness6 (enc:=enc) (C:=Tryz.checked) false ⟨#[],#[.agg #[.bool false,.slice none 0 0,.slice none 0 0,.int .i64 0,.slice none 0 0,.slice none 0 0,.slice none 0 0,.int .i64 0],.string ⟨#[]⟩],[]⟩ 12 (by kernel_rfl) (by kernel_rfl) (by kernel_rfl) (by kernel_rfl)) ?_
 intro W base args ds gs before hval hW _ _;refine law_post (D:=16) laid rfl rfl Tryz.underlying4 (by kernel_rfl) (by kernel_rfl) (fun ds h=>?_) hval hW (fun vds ho=>?_)
 ·match ds,h with
  | [d0,d1],_=>rfl
 ·have ho0 : Opens Tryz.prog 16 W [30,9] args.toList vds:=ho
  obtain ⟨v0,_,rfl,h0,_,ho1⟩:=ho0.cons;obtain ⟨v1,_,rfl,h1,_,ho2⟩:=ho1.cons;obtain rfl:=ho2.nil;obtain ⟨x0,rfl,y0⟩:=fitsV_struct Tryz.underlying30 (by rw [cells30];decide) h0;obtain ⟨a0,rfl,e0⟩:=fits_World y0;obtain ⟨x1,rfl,y1⟩:=fitsV_c Tryz.underlying9 (by simp) h1;obtain ⟨a1,z1,e1⟩:=fits_string Tryz.underlying9 y1;simp at z1;subst z1;rw [mL] at e1;exact lawServe_c a0 e0 a1 e1
theorem fnExactServe_holds : Rows.FnExactServeSaid:=
 OpenClaim.holds_of_wide 3 Tryz.f3 rfl rfl rfl rfl rfl rfl rfl ⟨rfl,rfl,rfl,rfl,rfl⟩ rfl rfl rfl rfl rfl (by kernel_rfl) Tryz.func3 joinedServe
  (of_decide_eq_true (by kernel_rfl)) (by unfold Func.isWrapper;first | (rw [if_pos (by decide +kernel)];kernel_rfl) | (rw [if_neg (by decide +kernel)];exact ⟨rfl,rfl⟩))
  (fun os started H enc _=>fnExactServe_lifted os started H enc)
#print axioms fnExactServe_holds
end Go.Proofs.YtoeofekglbdemaaGreat
