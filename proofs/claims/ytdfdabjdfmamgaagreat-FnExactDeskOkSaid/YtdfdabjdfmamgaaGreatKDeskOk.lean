import Derived.Test.YtdfdabjdfmamgaaGreatMG
import Derived.JoinedOf
/-
  The closed facts of the row DeskOk: what the program says of itself, counted.
-/
namespace Go.Proofs.YtdfdabjdfmamgaaGreat
open Go.AM
theorem jDeskOk0 : (Rows.fnExactDeskOkRow.wf (OpenSpec.ofChange Rows.fnExactDeskOkSpec)) = true := by kernel_rfl
theorem jDeskOk1 : (laidOutB Tryz.prog) = true := by kernel_rfl
theorem jDeskOk2 : (mapsRowed Tryz.prog) = true := by kernel_rfl
theorem jDeskOk3 : (Tryz.f5.params.all (Tryz.prog.readableRec ·)) = true := by kernel_rfl
theorem jDeskOk4 : (namedTie Tryz.prog Rows.fnExactDeskOkRow.named Rows.fnExactDeskOkSpec.vars) = true := by kernel_rfl
theorem jDeskOk5 : ((Rows.fnExactDeskOkRow.inPlace == Tryz.prog.inPlace 5)) = true := by kernel_rfl
theorem jDeskOk6 : ((Rows.fnExactDeskOkRow.unfollowed == Tryz.prog.unfollowed 5)) = true := by kernel_rfl
theorem jDeskOk7 : ((Rows.fnExactDeskOkRow.recurses == Tryz.prog.recurses 5)) = true := by kernel_rfl
theorem jDeskOk8 : ((Rows.fnExactDeskOkRow.named == Tryz.prog.varsNamed 5)) = true := by kernel_rfl
theorem jDeskOk9 : ((Rows.fnExactDeskOkRow.maps == (Tryz.f5.params.toList ++ Rows.fnExactDeskOkSpec.plain.varTypes Tryz.prog).any (Tryz.prog.mapsRec ·))) = true := by kernel_rfl
theorem jDeskOk10 : ((Rows.fnExactDeskOkRow.ifaces == (Tryz.f5.params.toList ++ Rows.fnExactDeskOkSpec.plain.varTypes Tryz.prog).any (Tryz.prog.ifacesRec ·))) = true := by kernel_rfl
theorem jDeskOk11 : ((Rows.fnExactDeskOkRow.mapsOut == Tryz.prog.mapsAmong Tryz.f5.resultTypes.toList)) = true := by kernel_rfl
theorem jDeskOk12 : ((Rows.fnExactDeskOkRow.loops == (Tryz.f5.params.toList ++ Rows.fnExactDeskOkSpec.plain.varTypes Tryz.prog).any (Tryz.prog.loopsFrom ·))) = true := by kernel_rfl
theorem jDeskOk13 : ((Rows.fnExactDeskOkRow.wideKeys == (Tryz.f5.params.toList ++ Rows.fnExactDeskOkSpec.plain.varTypes Tryz.prog ++ Tryz.f5.resultTypes.toList).any (Tryz.prog.wideKeysFrom ·))) = true := by kernel_rfl
theorem jDeskOk14 : (Tryz.f5.resultTypes.all (fun t => Tryz.prog.readableRec t && decide (t < Tryz.prog.types.size))) = true := by kernel_rfl
theorem jDeskOk15 : ((Rows.fnExactDeskOkRow.ifacesOut == Tryz.f5.resultTypes.toList.any (Tryz.prog.ifacesRec ·))) = true := by kernel_rfl
theorem jDeskOk16 : ((Rows.fnExactDeskOkRow.loopsOut == Tryz.f5.resultTypes.toList.any (Tryz.prog.loopsFrom ·))) = true := by kernel_rfl
theorem jDeskOk17 : ((Rows.fnExactDeskOkRow.plainKeys == Tryz.prog.plainKeys)) = true := by kernel_rfl
theorem jDeskOk18 : (Tryz.prog.stopsHeard) = true := by kernel_rfl
theorem jDeskOk19 : (Tryz.prog.mayEnter) = true := by kernel_rfl
theorem jDeskOk20 : ((Rows.fnExactDeskOkRow.lifted == Tryz.prog.liftsFinal)) = true := by kernel_rfl
theorem jDeskOk21 : ((Tryz.prog.make == some Rows.fnExactDeskOkRow.make)) = true := by kernel_rfl
theorem jDeskOk22 : ((Rows.fnExactDeskOkRow.veiled == (Tryz.f5.params.toList ++ Rows.fnExactDeskOkSpec.plain.varTypes Tryz.prog ++ Tryz.f5.resultTypes.toList).any (Tryz.prog.veiledRec ·))) = true := by kernel_rfl
theorem jDeskOk23 : (Rows.fnExactDeskOkRow.veiledFits Tryz.prog Tryz.f5.params.toList (Tryz.f5.params.toList ++ Rows.fnExactDeskOkSpec.plain.varTypes Tryz.prog ++ Tryz.f5.resultTypes.toList)) = true := by kernel_rfl
theorem joinedDeskOk : joinedFacts Tryz.prog 5 Tryz.f5 Rows.fnExactDeskOkSpec Rows.fnExactDeskOkRow = true := by
  unfold joinedFacts
  rw [jDeskOk0, jDeskOk1, jDeskOk2, jDeskOk3, jDeskOk4, jDeskOk5, jDeskOk6, jDeskOk7, jDeskOk8, jDeskOk9, jDeskOk10, jDeskOk11, jDeskOk12, jDeskOk13, jDeskOk14, jDeskOk15, jDeskOk16, jDeskOk17, jDeskOk18, jDeskOk19, jDeskOk20, jDeskOk21, jDeskOk22, jDeskOk23]
  kernel_rfl
end Go.Proofs.YtdfdabjdfmamgaaGreat

