/-
  impl.Pick answers as spec.Pick does, for every world and every number; the world that it is handed reads afterwards as before, and what it answers is memory of its own. No condition beyond the sizes that the statement itself names.
-/
import Derived.Test.YtklblkobegcljaaGreatKPick
import Derived.Test.YtklblkobegcljaaGreatPL
import Derived.Test.YtklblkobegcljaaGreatNA
import Derived.Test.YtklblkobegcljaaGreatMF
namespace Go.Proofs.YtklblkobegcljaaGreat
open Go.AM Go.ChangeShapes Go.WideShapes Go.ChangeAt Go.RowKit
set_option maxRecDepth 20000
set_option maxHeartbeats 3200000 in
theorem Oa(a0:Wld)(f0:a0.fits)(a1:Int)(f1:gn a1)(hns:¬DI a0 a1):ar Tryz.prog 3 [.agg a0.row,.c (vi a1)] (.one (.c (.v (.bool true)) 1)):=by
 refine ar.introL aw Tryz.func3 al rfl rfl rfl (ai rfl) rfl (λw0 base us=>?_);simp[Wld.row];intro u0 u1 u2 u3 u4
 try intros
 refine ag.pure (A2 a0 f0 (2^20) aa) lW ?_;by_cases k1:bL a0<=2^20
 rotate_left
 ·rw[eU k1];simp
 rw[dL k1];obtain⟨m1,hm1⟩:∃m,2^20-bL a0=m:=⟨_,rfl⟩;rw[hm1];have n0:bL a0<=2^20:=aa;simp;have hs:=yI a0 f0 n0 a1 f1;have hi:=Ie a0 aa a1 hns;have hb:=MX a0 f0 n0 a1 f1;generalize iT a0 a1=r at hs hi hb;obtain⟨r0,r1⟩:=r;simp only at hs hi hb;have nn0:bL a0<=2^40:=dW n0 ah;have:=Wld.cntT_le a0;have:=Wld.cntT_le r0;refine ag.pure (jK a0 aa) lW ?_;simp[Wld.res]
 try intros
 refine ag.pure hs fc ?_;simp[Wld.res]
 try intros
 refine ag.pure (jK a0 aa) lW ?_;simp[Wld.res]
 try intros
 refine ag.pure hi fc ?_;simp[Wld.res]
 try intros
 refine ag.pure (jU r0 r0 aa) fc ?_;simp;refine uY eok mix al ?_;simp;refine⟨_,_,jK a0 aa,lW,?_⟩;simp[Wld.res];refine⟨_,_,jU a0 a0 aa,fc,?_⟩;simp;refine ag.mark (qe a0 1 aa aa aa) rfl (λ_ h=>h) ab ?_;obtain⟨c1,hc1⟩:∃c,1+((a0.cntT:Nat):Int)=c:=⟨_,rfl⟩;have zc1:¬c1<0:=aa;simp[Wld.markT,Wld.res,hc1,zc1];refine ag.pure (jU r0 r0 aa) (by simp[Wld.row,hc1,zc1]) ?_;simp[hc1,zc1];refine ag.mark (qe r0 1 aa aa aa) rfl (λ_ h=>h) ab ?_;obtain⟨c2,hc2⟩:∃c,1+((r0.cntT:Nat):Int)=c:=⟨_,rfl⟩;have zc2:¬c2<0:=aa;simp[Wld.markT,Wld.res,hc1,zc1,hc2,zc2];refine ag.pure (nz r0 1 aa aa aa) I8 ?_;simp[hc1,zc1,hc2,zc2]
 refine ag.pure (jK a0 aa) (by simp[Wld.row,u0,u1,u2,u3,u4,hc1,zc1,hc2,zc2]) ?_;simp[Wld.res,hc1,zc1,hc2,zc2]
 try intros
 refine ag.pure hi (by simp[Wld.row,hc1,zc1,hc2,zc2]) ?_;simp[Wld.res,hc1,zc1,hc2,zc2]
 try intros
 refine ag.pure (jU r0 r0 aa) (by simp[Wld.row,hc1,zc1,hc2,zc2]) ?_;simp[hc1,zc1,hc2,zc2];refine ag.pure (nz r0 1 aa aa aa) I8 ?_;simp[hc1,zc1,hc2,zc2]
theorem Ob(a0:Wld)(f0:a0.fits)(a1:Int)(f1:gn a1):ar Tryz.prog 3 [.agg a0.row,.c (vi a1)] (.one (.c (.v (.bool true)) 1)):=by
 by_cases h:DI a0 a1
 ·exact N9 a0 f0 a1 f1 h
 ·exact Oa a0 f0 a1 f1 h
set_option maxRecDepth 100000 in
theorem tf(os:Os)(started:os.Started)(H:Type)(enc:TypeId×Value->H) :
 ReturnsInHanded {} Tryz.checked os 3 .any (Rows.fnExactPickSpec.pre6 enc Tryz.prog Tryz.f3 Rows.fnExactPickRow.domain false) (Rows.fnExactPickSpec.post enc Tryz.prog Tryz.f3 false true false false):=by
 refine returnsInHanded_of_change (C:=Tryz.checked) own started al Tryz.func3
  (ChangeSpec.witness6 (enc:=enc) (C:=Tryz.checked) false ⟨#[],#[.agg #[.bool false,.slice none 0 0,.slice none 0 0,.int .i64 0,.slice none 0 0,.slice none 0 0,.slice none 0 0,.int .i64 0],.int .i64 0],[]⟩ 12 al al al al) ?_
 intro W base args ds gs before hval hW _ _;refine Rm (D:=16) ad3 rfl rfl Tryz.underlying4 al al (λds h=>?_) hval hW (λvds ho=>?_)
 ·match ds,h with
  | [d0,d1],_=>rfl
 ·have ho0:nK Tryz.prog 16 W [30,3] args.toList vds:=ho
  obtain⟨v0,_,rfl,h0,_,ho1⟩:=ho0.cons;obtain⟨v1,_,rfl,h1,_,ho2⟩:=ho1.cons;obtain rfl:=ho2.nil;obtain⟨x0,rfl,y0⟩:=Eo Tryz.underlying30 (by rw[M9];decide) h0;obtain⟨a0,rfl,e0⟩:=Iq y0;obtain⟨a1,rfl,e1⟩:=OJ Tryz.underlying3 h1;exact Ob a0 e0 a1 e1
theorem fnExactPick_holds:Rows.FnExactPickSaid:=
 OpenClaim.holds_of_wide 3 Tryz.f3 rfl rfl rfl rfl rfl rfl rfl ⟨rfl,rfl,rfl,rfl,rfl⟩ rfl rfl rfl rfl rfl al Tryz.func3 HY
  (of_decide_eq_true al) (by unfold Func.isWrapper;first|(rw[ao (by decide +kernel)];kernel_rfl)|(rw[au (by decide +kernel)];exact⟨rfl,rfl⟩))
  (λos started H enc _=>tf os started H enc)
#print axioms fnExactPick_holds
end Go.Proofs.YtklblkobegcljaaGreat
