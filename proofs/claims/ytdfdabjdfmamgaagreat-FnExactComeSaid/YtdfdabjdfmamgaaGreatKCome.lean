import Derived.Test.YtdfdabjdfmamgaaGreatMG
import Derived.JoinedOf
/-
  The closed facts of the row Come: what the program says of itself, counted.
-/
namespace Go.Proofs.YtdfdabjdfmamgaaGreat
open Go.AM
theorem jCome0 : (Rows.fnExactComeRow.wf (OpenSpec.ofChange Rows.fnExactComeSpec)) = true := by kernel_rfl
theorem jCome1 : (laidOutB Tryz.prog) = true := by kernel_rfl
theorem jCome2 : (mapsRowed Tryz.prog) = true := by kernel_rfl
theorem jCome3 : (Tryz.f10.params.all (Tryz.prog.readableRec ·)) = true := by kernel_rfl
theorem jCome4 : (namedTie Tryz.prog Rows.fnExactComeRow.named Rows.fnExactComeSpec.vars) = true := by kernel_rfl
theorem jCome5 : ((Rows.fnExactComeRow.inPlace == Tryz.prog.inPlace 10)) = true := by kernel_rfl
theorem jCome6 : ((Rows.fnExactComeRow.unfollowed == Tryz.prog.unfollowed 10)) = true := by kernel_rfl
theorem jCome7 : ((Rows.fnExactComeRow.recurses == Tryz.prog.recurses 10)) = true := by kernel_rfl
theorem jCome8 : ((Rows.fnExactComeRow.named == Tryz.prog.varsNamed 10)) = true := by kernel_rfl
theorem jCome9 : ((Rows.fnExactComeRow.maps == (Tryz.f10.params.toList ++ Rows.fnExactComeSpec.plain.varTypes Tryz.prog).any (Tryz.prog.mapsRec ·))) = true := by kernel_rfl
theorem jCome10 : ((Rows.fnExactComeRow.ifaces == (Tryz.f10.params.toList ++ Rows.fnExactComeSpec.plain.varTypes Tryz.prog).any (Tryz.prog.ifacesRec ·))) = true := by kernel_rfl
theorem jCome11 : ((Rows.fnExactComeRow.mapsOut == Tryz.prog.mapsAmong Tryz.f10.resultTypes.toList)) = true := by kernel_rfl
theorem jCome12 : ((Rows.fnExactComeRow.loops == (Tryz.f10.params.toList ++ Rows.fnExactComeSpec.plain.varTypes Tryz.prog).any (Tryz.prog.loopsFrom ·))) = true := by kernel_rfl
theorem jCome13 : ((Rows.fnExactComeRow.wideKeys == (Tryz.f10.params.toList ++ Rows.fnExactComeSpec.plain.varTypes Tryz.prog ++ Tryz.f10.resultTypes.toList).any (Tryz.prog.wideKeysFrom ·))) = true := by kernel_rfl
theorem jCome14 : (Tryz.f10.resultTypes.all (fun t => Tryz.prog.readableRec t && decide (t < Tryz.prog.types.size))) = true := by kernel_rfl
theorem jCome15 : ((Rows.fnExactComeRow.ifacesOut == Tryz.f10.resultTypes.toList.any (Tryz.prog.ifacesRec ·))) = true := by kernel_rfl
theorem jCome16 : ((Rows.fnExactComeRow.loopsOut == Tryz.f10.resultTypes.toList.any (Tryz.prog.loopsFrom ·))) = true := by kernel_rfl
theorem jCome17 : ((Rows.fnExactComeRow.plainKeys == Tryz.prog.plainKeys)) = true := by kernel_rfl
theorem jCome18 : (Tryz.prog.stopsHeard) = true := by kernel_rfl
theorem jCome19 : (Tryz.prog.mayEnter) = true := by kernel_rfl
theorem jCome20 : ((Rows.fnExactComeRow.lifted == Tryz.prog.liftsFinal)) = true := by kernel_rfl
theorem jCome21 : ((Tryz.prog.make == some Rows.fnExactComeRow.make)) = true := by kernel_rfl
theorem jCome22 : ((Rows.fnExactComeRow.veiled == (Tryz.f10.params.toList ++ Rows.fnExactComeSpec.plain.varTypes Tryz.prog ++ Tryz.f10.resultTypes.toList).any (Tryz.prog.veiledRec ·))) = true := by kernel_rfl
theorem jCome23 : (Rows.fnExactComeRow.veiledFits Tryz.prog Tryz.f10.params.toList (Tryz.f10.params.toList ++ Rows.fnExactComeSpec.plain.varTypes Tryz.prog ++ Tryz.f10.resultTypes.toList)) = true := by kernel_rfl
theorem joinedCome : joinedFacts Tryz.prog 10 Tryz.f10 Rows.fnExactComeSpec Rows.fnExactComeRow = true := by
  unfold joinedFacts
  rw [jCome0, jCome1, jCome2, jCome3, jCome4, jCome5, jCome6, jCome7, jCome8, jCome9, jCome10, jCome11, jCome12, jCome13, jCome14, jCome15, jCome16, jCome17, jCome18, jCome19, jCome20, jCome21, jCome22, jCome23]
  kernel_rfl
end Go.Proofs.YtdfdabjdfmamgaaGreat

