import Derived.Test.YtdfdabjdfmamgaaGreatMG
import Derived.JoinedOf
/-
  The closed facts of the row WorldOk: what the program says of itself, counted.
-/
namespace Go.Proofs.YtdfdabjdfmamgaaGreat
open Go.AM
theorem jWorldOk0 : (Rows.fnExactWorldOkRow.wf (OpenSpec.ofChange Rows.fnExactWorldOkSpec)) = true := by kernel_rfl
theorem jWorldOk1 : (laidOutB Tryz.prog) = true := by kernel_rfl
theorem jWorldOk2 : (mapsRowed Tryz.prog) = true := by kernel_rfl
theorem jWorldOk3 : (Tryz.f6.params.all (Tryz.prog.readableRec ·)) = true := by kernel_rfl
theorem jWorldOk4 : (namedTie Tryz.prog Rows.fnExactWorldOkRow.named Rows.fnExactWorldOkSpec.vars) = true := by kernel_rfl
theorem jWorldOk5 : ((Rows.fnExactWorldOkRow.inPlace == Tryz.prog.inPlace 6)) = true := by kernel_rfl
theorem jWorldOk6 : ((Rows.fnExactWorldOkRow.unfollowed == Tryz.prog.unfollowed 6)) = true := by kernel_rfl
theorem jWorldOk7 : ((Rows.fnExactWorldOkRow.recurses == Tryz.prog.recurses 6)) = true := by kernel_rfl
theorem jWorldOk8 : ((Rows.fnExactWorldOkRow.named == Tryz.prog.varsNamed 6)) = true := by kernel_rfl
theorem jWorldOk9 : ((Rows.fnExactWorldOkRow.maps == (Tryz.f6.params.toList ++ Rows.fnExactWorldOkSpec.plain.varTypes Tryz.prog).any (Tryz.prog.mapsRec ·))) = true := by kernel_rfl
theorem jWorldOk10 : ((Rows.fnExactWorldOkRow.ifaces == (Tryz.f6.params.toList ++ Rows.fnExactWorldOkSpec.plain.varTypes Tryz.prog).any (Tryz.prog.ifacesRec ·))) = true := by kernel_rfl
theorem jWorldOk11 : ((Rows.fnExactWorldOkRow.mapsOut == Tryz.prog.mapsAmong Tryz.f6.resultTypes.toList)) = true := by kernel_rfl
theorem jWorldOk12 : ((Rows.fnExactWorldOkRow.loops == (Tryz.f6.params.toList ++ Rows.fnExactWorldOkSpec.plain.varTypes Tryz.prog).any (Tryz.prog.loopsFrom ·))) = true := by kernel_rfl
theorem jWorldOk13 : ((Rows.fnExactWorldOkRow.wideKeys == (Tryz.f6.params.toList ++ Rows.fnExactWorldOkSpec.plain.varTypes Tryz.prog ++ Tryz.f6.resultTypes.toList).any (Tryz.prog.wideKeysFrom ·))) = true := by kernel_rfl
theorem jWorldOk14 : (Tryz.f6.resultTypes.all (fun t => Tryz.prog.readableRec t && decide (t < Tryz.prog.types.size))) = true := by kernel_rfl
theorem jWorldOk15 : ((Rows.fnExactWorldOkRow.ifacesOut == Tryz.f6.resultTypes.toList.any (Tryz.prog.ifacesRec ·))) = true := by kernel_rfl
theorem jWorldOk16 : ((Rows.fnExactWorldOkRow.loopsOut == Tryz.f6.resultTypes.toList.any (Tryz.prog.loopsFrom ·))) = true := by kernel_rfl
theorem jWorldOk17 : ((Rows.fnExactWorldOkRow.plainKeys == Tryz.prog.plainKeys)) = true := by kernel_rfl
theorem jWorldOk18 : (Tryz.prog.stopsHeard) = true := by kernel_rfl
theorem jWorldOk19 : (Tryz.prog.mayEnter) = true := by kernel_rfl
theorem jWorldOk20 : ((Rows.fnExactWorldOkRow.lifted == Tryz.prog.liftsFinal)) = true := by kernel_rfl
theorem jWorldOk21 : ((Tryz.prog.make == some Rows.fnExactWorldOkRow.make)) = true := by kernel_rfl
theorem jWorldOk22 : ((Rows.fnExactWorldOkRow.veiled == (Tryz.f6.params.toList ++ Rows.fnExactWorldOkSpec.plain.varTypes Tryz.prog ++ Tryz.f6.resultTypes.toList).any (Tryz.prog.veiledRec ·))) = true := by kernel_rfl
theorem jWorldOk23 : (Rows.fnExactWorldOkRow.veiledFits Tryz.prog Tryz.f6.params.toList (Tryz.f6.params.toList ++ Rows.fnExactWorldOkSpec.plain.varTypes Tryz.prog ++ Tryz.f6.resultTypes.toList)) = true := by kernel_rfl
theorem joinedWorldOk : joinedFacts Tryz.prog 6 Tryz.f6 Rows.fnExactWorldOkSpec Rows.fnExactWorldOkRow = true := by
  unfold joinedFacts
  rw [jWorldOk0, jWorldOk1, jWorldOk2, jWorldOk3, jWorldOk4, jWorldOk5, jWorldOk6, jWorldOk7, jWorldOk8, jWorldOk9, jWorldOk10, jWorldOk11, jWorldOk12, jWorldOk13, jWorldOk14, jWorldOk15, jWorldOk16, jWorldOk17, jWorldOk18, jWorldOk19, jWorldOk20, jWorldOk21, jWorldOk22, jWorldOk23]
  kernel_rfl
end Go.Proofs.YtdfdabjdfmamgaaGreat

