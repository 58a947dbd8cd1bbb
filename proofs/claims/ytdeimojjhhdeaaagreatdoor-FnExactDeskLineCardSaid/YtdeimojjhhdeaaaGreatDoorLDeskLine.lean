/-
  impl.DeskLine answers as spec.DeskLine does, for every desk and every line; the desk that it is handed reads afterwards as before, and what it answers is memory of its own. No condition beyond the sizes that the statement itself names.
-/
import Derived.Test.YtdeimojjhhdeaaaGreatDoorKDeskLine
import Derived.Test.YtdeimojjhhdeaaaGreatDoorPN
import Derived.Test.YtdeimojjhhdeaaaGreatDoorNA
import Derived.Test.YtdeimojjhhdeaaaGreatDoorMF
import Derived.Test.YtdeimojjhhdeaaaGreatDoorTie
import Derived.Test.YtdeimojjhhdeaaaGreatDoorCards
namespace Go.Proofs.YtdeimojjhhdeaaaGreatDoor
open Go.AM Go.ChangeShapes Go.WideShapes Go.ChangeAt Go.RowKit
set_option maxRecDepth 20000
set_option maxHeartbeats 3200000 in
theorem Hu(a0:Desk)(f0:a0.fits)(a1:ByteArray)(f1:a1.size<=9223372036854775807):dt Tryz.prog LT 3 [.agg a0.row,.c (.v (.string a1))] (.one (.c (.v (.bool true)) 1)):=by
 refine dt.introL aq LT.stay Tryz.func3 ai rfl rfl rfl (aj rfl) rfl (λw0 base us eok=>?_);simp[Desk.row];intro u0 u1 u2 u3 u4 u5
 try intros
 by_cases hbig1:1048576<(a1.size:Int)
 ·simp[hbig1]
 have n1:a1.size<=2^20:=aa;simp[hbig1];refine ae.pure (ZT a0 f0 (2^20) aa) yU ?_;by_cases k1:gW a0<=2^20
 rotate_left
 ·rw[iJ k1];simp
 rw[gm k1];obtain⟨m1,hm1⟩:∃m,2^20-gW a0=m:=⟨_,rfl⟩;rw[hm1];have n0:gW a0<=2^20:=aa;simp;have hs:=EX a0 f0 n0 a1 f1 n1;have hi:=FU a0 f0 n0 a1 f1 n1;have hb:=NJ a0 f0 n0 a1 f1 n1;generalize nX a0 a1=r at hs hi hb;obtain⟨r0,r1⟩:=r;simp only at hs hi hb;have nn0:gW a0<=2^40:=cT n0 ag;have nn1:a1.size<=2^40:=cT n1 ag;have:=AD a0;have:=AD r0;refine ae.pure (yR a0 aa) yU ?_;simp[Desk.res]
 try intros
 refine ae.pure hs lh ?_;simp[Desk.res]
 try intros
 refine ae.pure (yR a0 aa) yU ?_;simp[Desk.res]
 try intros
 refine aB eok hi lh ?_;simp[Desk.res]
 try intros
 refine ae.pure (Ak r0 r0 aa) lh ?_;simp;refine Mc eok mix ai ?_;simp;refine⟨_,_,(yR a0 aa).up,yU,?_⟩;simp[Desk.res];refine⟨_,_,(Ak a0 a0 aa).up,lh,?_⟩;simp;refine ae.mark (Fx a0 1 aa aa aa) rfl (λ_ h=>h) ab ?_;obtain⟨c1,hc1⟩:∃c,1+((a0.cntT:Nat):Int)=c:=⟨_,rfl⟩;have zc1:¬c1<0:=aa;simp[Desk.markT,Desk.res,hc1,zc1];refine ae.pure (Ak r0 r0 aa) lh ?_;simp;refine ae.mark (Fx r0 1 aa aa aa) rfl (λ_ h=>h) ab ?_;obtain⟨c2,hc2⟩:∃c,1+((r0.cntT:Nat):Int)=c:=⟨_,rfl⟩;have zc2:¬c2<0:=aa;simp[Desk.markT,Desk.res,hc2];refine ae.pure (FW r0 1 aa aa aa) (by simp[bg,Desk.row,Desk.markT]) ?_;simp[hc2,zc2]
 refine ae.pure (yR a0 aa) yU ?_;simp[Desk.res]
 try intros
 refine aB eok hi lh ?_;simp[Desk.res]
 try intros
 refine ae.pure (Ak r0 r0 aa) lh ?_;simp;refine ae.pure (FW r0 1 aa aa aa) (by simp[bg,Desk.row,Desk.markT]) ?_;simp[hc2,zc2]
theorem M7(os:Os)(args:Array Value):laidMetH Tryz.prog Rows.fnExactDeskLineRow.laid ((World.laidAll Tryz.prog os Rows.fnExactDeskLineRow.laid).forCall (λ_ _=>0) ⟨#[],args,[]⟩).memory:=
 adv args ai ai ai
set_option maxRecDepth 100000 in
theorem tS(os:Os)(started:os.Started)(H:Type)(enc:TypeId×Value->H) :
 ReturnsInHanded {} Tryz.checked os 3 .any (λw args=>(Rows.fnExactDeskLineSpec.pre enc Tryz.prog Tryz.f3 [] false w args/\laidMetH Tryz.prog Rows.fnExactDeskLineRow.laid w)/\sizedMet enc Tryz.prog Tryz.f3 (OpenSpec.ofChange Rows.fnExactDeskLineSpec) false w args) (Rows.fnExactDeskLineSpec.post enc Tryz.prog Tryz.f3 false true false false):=by
 refine Z6 (C:=Tryz.checked) (X:=λw _=>laidMetH Tryz.prog Rows.fnExactDeskLineRow.laid w) (λ_ _ _ hh h=>h.of_heap hh) own started ai Tryz.func3
  (ChangeSpec.witness_shaped (enc:=enc) (C:=Tryz.checked) (os:=os) (X:=λw _=>laidMetH Tryz.prog Rows.fnExactDeskLineRow.laid w) false (World.laidAll Tryz.prog os Rows.fnExactDeskLineRow.laid) #[.agg #[.bool false,.slice none 0 0,.slice none 0 0,.int .i64 0,.string ⟨#[]⟩,.int .i64 0,.slice none 0 0,.slice none 0 0,.slice none 0 0,.slice none 0 0],.string ⟨#[]⟩] 12 (World.laidAll_os _ _ _) (World.shaped_of_ZipB ai ai) ai ai ai (M7 os _)) ?_
 intro W base args ds gs before hval hW hL hsh;have hL:laidMetH Tryz.prog Rows.fnExactDeskLineRow.laid W:=hL;rw[aiP _ _ _ ai]at hL;have hLT:LT W:=aj8 hL hsh (adw hL.tail.tail.tail.tail);refine Xl (L:=LT) (D:=16) laid rfl rfl Tryz.underlying4 ai ai (λds h=>?_) hval hW hLT (λvds ho=>?_)
 ·match ds,h with
  | [d0,d1],_=>rfl
 ·have ho0:sF Tryz.prog 16 W [35,9] args.toList vds:=ho
  obtain⟨v0,_,rfl,h0,_,ho1⟩:=ho0.cons;obtain⟨v1,_,rfl,h1,_,ho2⟩:=ho1.cons;obtain rfl:=ho2.nil;obtain⟨x0,rfl,y0⟩:=Lp Tryz.underlying35 (by rw[VY];decide) h0;obtain⟨a0,rfl,e0⟩:=XK y0;obtain⟨x1,rfl,y1⟩:=adO Tryz.underlying9 ab h1;obtain⟨a1,z1,e1⟩:=vD Tryz.underlying9 y1;simp at z1;subst z1;rw[mL]at e1;exact Hu a0 e0 a1 e1
theorem xt:Rows.FnExactDeskLineSaid:=
 OpenClaim.holds_of_wide 3 Tryz.f3 rfl rfl rfl rfl rfl rfl rfl ⟨rfl,rfl,rfl,rfl,rfl⟩ rfl rfl rfl rfl rfl ai Tryz.func3 FE
  (of_decide_eq_true ai) (by unfold Func.isWrapper;first|(rw[al sL];kernel_rfl)|(rw[ak sL];exact⟨rfl,rfl⟩))
  (λos started H enc _=>tS os started H enc)
theorem fnExactDeskLine_holds:Rows.FnExactDeskLineCardSaid:=
 Claim7.holds_tied_plain_at .later [] [.data, .data, .data, .data, .sentinel, .sentinel, .pinned] true (true, "01e849be8a410f33e78ec37da2b3777843bca7d49c340218b7d08c73d00455e3") true xt (fun _ h => kI) ai (fun _ h => kI) fnExactDeskLine_row_tie rfl ⟨rfl, rfl⟩ ai rfl
  (λf fn hf hfn=>by
   obtain rfl:f=3:=ie ((show Tryz.prog.funcNamed Rows.fnExactDeskLineRow.func=some 3 from ai).symm.trans hf) |>.symm;obtain rfl:fn=Tryz.f3:=(ie (Tryz.func3.symm.trans hfn)).symm;refine⟨ai,λj t ht=>?_⟩;have ht':(#[35,9]:Array TypeId)[j]? = some t:=ht;have hm:t∈[35,9]:=by simpa using Array.mem_of_getElem? ht'
   have hall:([35,9].all λu=>!Tryz.prog.wantsStandIn u)=true:=ai;exact(show Tryz.prog.wantsStandIn t=false by simpa using List.all_eq_true.1 hall t hm))
  (XD ai rfl)
#print axioms fnExactDeskLine_holds
end Go.Proofs.YtdeimojjhhdeaaaGreatDoor
