/-
  impl.Finish answers as spec.Finish does, for every world and every list of numbers; what it is handed reads afterwards as before, and what it answers is memory of its own. No condition beyond the sizes that the statement itself names.
-/
import Derived.Test.YtklblkobegcljaaGreatKFinish
import Derived.Test.YtklblkobegcljaaGreatPM
import Derived.Test.YtklblkobegcljaaGreatNA
import Derived.Test.YtklblkobegcljaaGreatMF
namespace Go.Proofs.YtklblkobegcljaaGreat
open Go.AM Go.ChangeShapes Go.WideShapes Go.ChangeAt Go.RowKit
set_option maxRecDepth 20000
set_option maxHeartbeats 3200000 in
theorem HV(a0:Wld)(f0:a0.fits)(a1:List Int)(f1:(a1.length<=9223372036854775807/\∀n∈a1,gl n))(hns:¬mn a1 1000001 0 a0):ar Tryz.prog 4 [.agg a0.row,.c (.s (a1.map aG))] (.one (.c (.v (.bool true)) 1)):=by
 refine ar.introL aw Tryz.func4 al rfl rfl rfl (ai rfl) rfl (λw0 base us=>?_);simp[Wld.row];intro u0 u1 u2 u3 u4 u5
 try intros
 by_cases hbig1:1048576<(a1.length:Int)
 ·simp[hbig1]
 have n1:a1.length<=2^20:=aa;simp[hbig1];refine ag.pure (Co a0 f0 (2^20) aa) yE ?_;by_cases k1:bY a0<=2^20
 rotate_left
 ·rw[fq k1];simp
 rw[dY k1];obtain⟨m1,hm1⟩:∃m,2^20-bY a0=m:=⟨_,rfl⟩;rw[hm1];have n0:bY a0<=2^20:=aa;simp;have hs:=vq a0 f0 n0 a1 f1 n1;have hi:=FZ a0 n0 a1 aa f1.2 hns;have hb:=Dc a0 f0 n0 a1 f1 n1;generalize eZ a0 a1=r at hs hi hb;obtain⟨r0,r1⟩:=r;simp only at hs hi hb;have nn0:bY a0<=2^40:=dP n0 ah;have nn1:a1.length<=2^40:=dP n1 ah;have:=Wld.cntT_le a0;have:=Wld.cntT_le r0;refine ag.pure (kz a0 aa) yE ?_;simp[Wld.res]
 try intros
 refine ag.pure (gG a1 aa) DC ?_;simp
 try intros
 refine ag.pure hs yD ?_;simp[Wld.res]
 try intros
 refine ag.pure (kz a0 aa) yE ?_;simp[Wld.res]
 try intros
 refine ag.pure (gG a1 aa) DC ?_;simp
 try intros
 refine ag.pure hi yD ?_;simp[Wld.res]
 try intros
 refine ag.pure (kM r0 r0 aa) yD ?_;simp;refine wi eok mix al ?_;simp;refine⟨_,_,kz a0 aa,yE,?_⟩;simp[Wld.res];refine⟨_,_,kM a0 a0 aa,yD,?_⟩;simp;refine ag.pure (gG a1 aa) DC ?_;simp
 try intros
 refine ag.pure (mu a1 a1 aa) (by simp) ?_;simp;refine ag.mark (rB a0 1 aa aa aa) rfl (λ_ h=>h) ab ?_;obtain⟨c1,hc1⟩:∃c,1+((a0.cntT:Nat):Int)=c:=⟨_,rfl⟩;have zc1:¬c1<0:=aa;simp[Wld.markT,Wld.res,hc1];refine ag.mark (fh a1 c1 aa aa) rfl (λ_ h=>h) ab ?_;obtain⟨c2,hc2⟩:∃c,c1+((a1.length:Nat):Int)=c:=⟨_,rfl⟩;have zc2:¬c2<0:=aa;simp[hc2,zc2];refine ag.pure (kM r0 r0 aa) (by simp[Wld.row]) ?_;simp;refine ag.mark (rB r0 1 aa aa aa) rfl (λ_ h=>h) ab ?_;obtain⟨c3,hc3⟩:∃c,1+((r0.cntT:Nat):Int)=c:=⟨_,rfl⟩;have zc3:¬c3<0:=aa
 simp[Wld.markT,Wld.res,hc3];refine ag.pure (oB r0 1 aa aa aa) K6 ?_;simp[hc3,zc3];refine ag.pure (kz a0 aa) (by simp[Wld.row,u0,u1,u2,u3,u4]) ?_;simp[Wld.res]
 try intros
 refine ag.pure (gG a1 aa) (by simp[u5]) ?_;simp
 try intros
 refine ag.pure hi (by simp[Wld.row]) ?_;simp[Wld.res]
 try intros
 refine ag.pure (kM r0 r0 aa) (by simp[Wld.row]) ?_;simp;refine ag.pure (oB r0 1 aa aa aa) K6 ?_;simp[hc3,zc3]
theorem HW(a0:Wld)(f0:a0.fits)(a1:List Int)(f1:(a1.length<=9223372036854775807/\∀n∈a1,gl n)):ar Tryz.prog 4 [.agg a0.row,.c (.s (a1.map aG))] (.one (.c (.v (.bool true)) 1)):=by
 by_cases h:mn a1 1000001 0 a0
 ·exact HU a0 f0 a1 f1 h
 ·exact HV a0 f0 a1 f1 h
set_option maxRecDepth 100000 in
theorem rL(os:Os)(started:os.Started)(H:Type)(enc:TypeId×Value->H) :
 ReturnsInHanded {} Tryz.checked os 4 .any (Rows.fnExactFinishSpec.pre6 enc Tryz.prog Tryz.f4 Rows.fnExactFinishRow.domain false) (Rows.fnExactFinishSpec.post enc Tryz.prog Tryz.f4 false true false false):=by
 refine returnsInHanded_of_change (C:=Tryz.checked) own started al Tryz.func4
  (ChangeSpec.witness6 (enc:=enc) (C:=Tryz.checked) false ⟨#[],#[.agg #[.bool false,.slice none 0 0,.slice none 0 0,.int .i64 0,.slice none 0 0,.slice none 0 0,.slice none 0 0,.int .i64 0],.slice none 0 0],[]⟩ 12 al al al al) ?_
 intro W base args ds gs before hval hW _ _;refine TE (D:=16) ago rfl rfl Tryz.underlying4 al al (λds h=>?_) hval hW (λvds ho=>?_)
 ·match ds,h with
  | [d0,d1],_=>rfl
 ·have ho0:oM Tryz.prog 16 W [30,26] args.toList vds:=ho
  obtain⟨v0,_,rfl,h0,_,ho1⟩:=ho0.cons;obtain⟨v1,_,rfl,h1,_,ho2⟩:=ho1.cons;obtain rfl:=ho2.nil;obtain⟨x0,rfl,y0⟩:=Ge Tryz.underlying30 (by rw[Pq];decide) h0;obtain⟨a0,rfl,e0⟩:=Kc y0;obtain⟨x1,rfl,y1⟩:=Ur Tryz.underlying26 h1;obtain⟨a1,z1,e1⟩:=lQ y1;simp at z1;subst z1;exact HW a0 e0 a1 e1
theorem fnExactFinish_holds:Rows.FnExactFinishSaid:=
 OpenClaim.holds_of_wide 4 Tryz.f4 rfl rfl rfl rfl rfl rfl rfl ⟨rfl,rfl,rfl,rfl,rfl⟩ rfl rfl rfl rfl rfl al Tryz.func4 FL
  (of_decide_eq_true al) (by unfold Func.isWrapper;first|(rw[an (by decide +kernel)];kernel_rfl)|(rw[aq (by decide +kernel)];exact⟨rfl,rfl⟩))
  (λos started H enc _=>rL os started H enc)
#print axioms fnExactFinish_holds
end Go.Proofs.YtklblkobegcljaaGreat
