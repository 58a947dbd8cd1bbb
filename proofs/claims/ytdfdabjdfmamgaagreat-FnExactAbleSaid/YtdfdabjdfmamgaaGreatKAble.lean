import Derived.Test.YtdfdabjdfmamgaaGreatMG
import Derived.JoinedOf
namespace Go.Proofs.YtdfdabjdfmamgaaGreat
open Go.AM
theorem jAble0 : (Rows.fnExactAbleRow.wf (OpenSpec.ofChange Rows.fnExactAbleSpec)) = true := by kernel_rfl
theorem jAble1 : (laidOutB Tryz.prog) = true := by kernel_rfl
theorem jAble2 : (mapsRowed Tryz.prog) = true := by kernel_rfl
theorem jAble3 : (Tryz.f14.params.all (Tryz.prog.readableRec ·)) = true := by kernel_rfl
theorem jAble4 : (namedTie Tryz.prog Rows.fnExactAbleRow.named Rows.fnExactAbleSpec.vars) = true := by kernel_rfl
theorem jAble5 : ((Rows.fnExactAbleRow.inPlace == Tryz.prog.inPlace 14)) = true := by kernel_rfl
theorem jAble6 : ((Rows.fnExactAbleRow.unfollowed == Tryz.prog.unfollowed 14)) = true := by kernel_rfl
theorem jAble7 : ((Rows.fnExactAbleRow.recurses == Tryz.prog.recurses 14)) = true := by kernel_rfl
theorem jAble8 : ((Rows.fnExactAbleRow.named == Tryz.prog.varsNamed 14)) = true := by kernel_rfl
theorem jAble9 : ((Rows.fnExactAbleRow.maps == (Tryz.f14.params.toList ++ Rows.fnExactAbleSpec.plain.varTypes Tryz.prog).any (Tryz.prog.mapsRec ·))) = true := by kernel_rfl
theorem jAble10 : ((Rows.fnExactAbleRow.ifaces == (Tryz.f14.params.toList ++ Rows.fnExactAbleSpec.plain.varTypes Tryz.prog).any (Tryz.prog.ifacesRec ·))) = true := by kernel_rfl
theorem jAble11 : ((Rows.fnExactAbleRow.mapsOut == Tryz.prog.mapsAmong Tryz.f14.resultTypes.toList)) = true := by kernel_rfl
theorem jAble12 : ((Rows.fnExactAbleRow.loops == (Tryz.f14.params.toList ++ Rows.fnExactAbleSpec.plain.varTypes Tryz.prog).any (Tryz.prog.loopsFrom ·))) = true := by kernel_rfl
theorem jAble13 : ((Rows.fnExactAbleRow.wideKeys == (Tryz.f14.params.toList ++ Rows.fnExactAbleSpec.plain.varTypes Tryz.prog ++ Tryz.f14.resultTypes.toList).any (Tryz.prog.wideKeysFrom ·))) = true := by kernel_rfl
theorem jAble14 : (Tryz.f14.resultTypes.all (fun t => Tryz.prog.readableRec t && decide (t < Tryz.prog.types.size))) = true := by kernel_rfl
theorem jAble15 : ((Rows.fnExactAbleRow.ifacesOut == Tryz.f14.resultTypes.toList.any (Tryz.prog.ifacesRec ·))) = true := by kernel_rfl
theorem jAble16 : ((Rows.fnExactAbleRow.loopsOut == Tryz.f14.resultTypes.toList.any (Tryz.prog.loopsFrom ·))) = true := by kernel_rfl
theorem jAble17 : ((Rows.fnExactAbleRow.plainKeys == Tryz.prog.plainKeys)) = true := by kernel_rfl
theorem jAble18 : (Tryz.prog.stopsHeard) = true := by kernel_rfl
theorem jAble19 : (Tryz.prog.mayEnter) = true := by kernel_rfl
theorem jAble20 : ((Rows.fnExactAbleRow.lifted == Tryz.prog.liftsFinal)) = true := by kernel_rfl
theorem jAble21 : ((Tryz.prog.make == some Rows.fnExactAbleRow.make)) = true := by kernel_rfl
theorem jAble22 : ((Rows.fnExactAbleRow.veiled == (Tryz.f14.params.toList ++ Rows.fnExactAbleSpec.plain.varTypes Tryz.prog ++ Tryz.f14.resultTypes.toList).any (Tryz.prog.veiledRec ·))) = true := by kernel_rfl
theorem jAble23 : (Rows.fnExactAbleRow.veiledFits Tryz.prog Tryz.f14.params.toList (Tryz.f14.params.toList ++ Rows.fnExactAbleSpec.plain.varTypes Tryz.prog ++ Tryz.f14.resultTypes.toList)) = true := by kernel_rfl
theorem joinedAble : joinedFacts Tryz.prog 14 Tryz.f14 Rows.fnExactAbleSpec Rows.fnExactAbleRow = true := by
  unfold joinedFacts; rw [jAble0, jAble1, jAble2, jAble3, jAble4, jAble5, jAble6, jAble7, jAble8, jAble9, jAble10, jAble11, jAble12, jAble13, jAble14, jAble15, jAble16, jAble17, jAble18, jAble19, jAble20, jAble21, jAble22, jAble23]
  kernel_rfl
end Go.Proofs.YtdfdabjdfmamgaaGreat

