import Derived.Test.YtoldjebobgocpaaGreatMH
import Derived.JoinedOf
namespace Go.Proofs.YtoldjebobgocpaaGreat
open Go.AM
theorem De : (Rows.fnStuckRow.wf (OpenSpec.ofChange Rows.fnStuckSpec)) = true:=by kernel_rfl
theorem Dd : (laidOutB Tryz.prog) = true:=by kernel_rfl
theorem Dc : (mapsRowed Tryz.prog) = true:=by kernel_rfl
theorem Db : (Tryz.f7.params.all (Tryz.prog.readableRec ·)) = true:=by kernel_rfl
theorem Da : (namedTie Tryz.prog Rows.fnStuckRow.named Rows.fnStuckSpec.vars) = true:=by kernel_rfl
theorem C9 : ((Rows.fnStuckRow.inPlace == Tryz.prog.inPlace 7)) = true:=by kernel_rfl
theorem C8 : ((Rows.fnStuckRow.unfollowed == Tryz.prog.unfollowed 7)) = true:=by kernel_rfl
theorem C7 : ((Rows.fnStuckRow.recurses == Tryz.prog.recurses 7)) = true:=by kernel_rfl
theorem C6 : ((Rows.fnStuckRow.named == Tryz.prog.varsNamed 7)) = true:=by kernel_rfl
theorem C5 : ((Rows.fnStuckRow.maps == (Tryz.f7.params.toList ++ Rows.fnStuckSpec.plain.varTypes Tryz.prog).any (Tryz.prog.mapsRec ·))) = true:=by kernel_rfl
theorem Av : ((Rows.fnStuckRow.ifaces == (Tryz.f7.params.toList ++ Rows.fnStuckSpec.plain.varTypes Tryz.prog).any (Tryz.prog.ifacesRec ·))) = true:=by kernel_rfl
theorem Au : ((Rows.fnStuckRow.mapsOut == Tryz.prog.mapsAmong Tryz.f7.resultTypes.toList)) = true:=by kernel_rfl
theorem As : ((Rows.fnStuckRow.loops == (Tryz.f7.params.toList ++ Rows.fnStuckSpec.plain.varTypes Tryz.prog).any (Tryz.prog.loopsFrom ·))) = true:=by kernel_rfl
theorem Ar : ((Rows.fnStuckRow.wideKeys == (Tryz.f7.params.toList ++ Rows.fnStuckSpec.plain.varTypes Tryz.prog ++ Tryz.f7.resultTypes.toList).any (Tryz.prog.wideKeysFrom ·))) = true:=by kernel_rfl
theorem Aq : (Tryz.f7.resultTypes.all (λt=>Tryz.prog.readableRec t && decide (t < Tryz.prog.types.size))) = true:=by kernel_rfl
theorem Ap : ((Rows.fnStuckRow.ifacesOut == Tryz.f7.resultTypes.toList.any (Tryz.prog.ifacesRec ·))) = true:=by kernel_rfl
theorem Ao : ((Rows.fnStuckRow.loopsOut == Tryz.f7.resultTypes.toList.any (Tryz.prog.loopsFrom ·))) = true:=by kernel_rfl
theorem An : ((Rows.fnStuckRow.plainKeys == Tryz.prog.plainKeys)) = true:=by kernel_rfl
theorem Am : (Tryz.prog.stopsHeard) = true:=by kernel_rfl
theorem Al : (Tryz.prog.mayEnter) = true:=by kernel_rfl
theorem Ak : ((Rows.fnStuckRow.lifted == Tryz.prog.liftsFinal)) = true:=by kernel_rfl
theorem Aj : ((Tryz.prog.make == some Rows.fnStuckRow.make)) = true:=by kernel_rfl
theorem Ai : ((Rows.fnStuckRow.veiled == (Tryz.f7.params.toList ++ Rows.fnStuckSpec.plain.varTypes Tryz.prog ++ Tryz.f7.resultTypes.toList).any (Tryz.prog.veiledRec ·))) = true:=by kernel_rfl
theorem Ah : (Rows.fnStuckRow.veiledFits Tryz.prog Tryz.f7.params.toList (Tryz.f7.params.toList ++ Rows.fnStuckSpec.plain.varTypes Tryz.prog ++ Tryz.f7.resultTypes.toList)) = true:=by kernel_rfl
theorem t5 : joinedFacts Tryz.prog 7 Tryz.f7 Rows.fnStuckSpec Rows.fnStuckRow = true:=by
 unfold joinedFacts;rw [De,Dd,Dc,Db,Da,C9,C8,C7,C6,C5,Av,Au,As,Ar,Aq,Ap,Ao,An,Am,Al,Ak,Aj,Ai,Ah]
 kernel_rfl
end Go.Proofs.YtoldjebobgocpaaGreat
