import Derived.Test.YtdfdabjdfmamgaaGreatMG
import Derived.JoinedOf
/-
  The closed facts of the row WorkLeft: what the program says of itself, counted.
-/
namespace Go.Proofs.YtdfdabjdfmamgaaGreat
open Go.AM
theorem jWorkLeft0 : (Rows.fnExactWorkLeftRow.wf (OpenSpec.ofChange Rows.fnExactWorkLeftSpec)) = true := by kernel_rfl
theorem jWorkLeft1 : (laidOutB Tryz.prog) = true := by kernel_rfl
theorem jWorkLeft2 : (mapsRowed Tryz.prog) = true := by kernel_rfl
theorem jWorkLeft3 : (Tryz.f8.params.all (Tryz.prog.readableRec ·)) = true := by kernel_rfl
theorem jWorkLeft4 : (namedTie Tryz.prog Rows.fnExactWorkLeftRow.named Rows.fnExactWorkLeftSpec.vars) = true := by kernel_rfl
theorem jWorkLeft5 : ((Rows.fnExactWorkLeftRow.inPlace == Tryz.prog.inPlace 8)) = true := by kernel_rfl
theorem jWorkLeft6 : ((Rows.fnExactWorkLeftRow.unfollowed == Tryz.prog.unfollowed 8)) = true := by kernel_rfl
theorem jWorkLeft7 : ((Rows.fnExactWorkLeftRow.recurses == Tryz.prog.recurses 8)) = true := by kernel_rfl
theorem jWorkLeft8 : ((Rows.fnExactWorkLeftRow.named == Tryz.prog.varsNamed 8)) = true := by kernel_rfl
theorem jWorkLeft9 : ((Rows.fnExactWorkLeftRow.maps == (Tryz.f8.params.toList ++ Rows.fnExactWorkLeftSpec.plain.varTypes Tryz.prog).any (Tryz.prog.mapsRec ·))) = true := by kernel_rfl
theorem jWorkLeft10 : ((Rows.fnExactWorkLeftRow.ifaces == (Tryz.f8.params.toList ++ Rows.fnExactWorkLeftSpec.plain.varTypes Tryz.prog).any (Tryz.prog.ifacesRec ·))) = true := by kernel_rfl
theorem jWorkLeft11 : ((Rows.fnExactWorkLeftRow.mapsOut == Tryz.prog.mapsAmong Tryz.f8.resultTypes.toList)) = true := by kernel_rfl
theorem jWorkLeft12 : ((Rows.fnExactWorkLeftRow.loops == (Tryz.f8.params.toList ++ Rows.fnExactWorkLeftSpec.plain.varTypes Tryz.prog).any (Tryz.prog.loopsFrom ·))) = true := by kernel_rfl
theorem jWorkLeft13 : ((Rows.fnExactWorkLeftRow.wideKeys == (Tryz.f8.params.toList ++ Rows.fnExactWorkLeftSpec.plain.varTypes Tryz.prog ++ Tryz.f8.resultTypes.toList).any (Tryz.prog.wideKeysFrom ·))) = true := by kernel_rfl
theorem jWorkLeft14 : (Tryz.f8.resultTypes.all (fun t => Tryz.prog.readableRec t && decide (t < Tryz.prog.types.size))) = true := by kernel_rfl
theorem jWorkLeft15 : ((Rows.fnExactWorkLeftRow.ifacesOut == Tryz.f8.resultTypes.toList.any (Tryz.prog.ifacesRec ·))) = true := by kernel_rfl
theorem jWorkLeft16 : ((Rows.fnExactWorkLeftRow.loopsOut == Tryz.f8.resultTypes.toList.any (Tryz.prog.loopsFrom ·))) = true := by kernel_rfl
theorem jWorkLeft17 : ((Rows.fnExactWorkLeftRow.plainKeys == Tryz.prog.plainKeys)) = true := by kernel_rfl
theorem jWorkLeft18 : (Tryz.prog.stopsHeard) = true := by kernel_rfl
theorem jWorkLeft19 : (Tryz.prog.mayEnter) = true := by kernel_rfl
theorem jWorkLeft20 : ((Rows.fnExactWorkLeftRow.lifted == Tryz.prog.liftsFinal)) = true := by kernel_rfl
theorem jWorkLeft21 : ((Tryz.prog.make == some Rows.fnExactWorkLeftRow.make)) = true := by kernel_rfl
theorem jWorkLeft22 : ((Rows.fnExactWorkLeftRow.veiled == (Tryz.f8.params.toList ++ Rows.fnExactWorkLeftSpec.plain.varTypes Tryz.prog ++ Tryz.f8.resultTypes.toList).any (Tryz.prog.veiledRec ·))) = true := by kernel_rfl
theorem jWorkLeft23 : (Rows.fnExactWorkLeftRow.veiledFits Tryz.prog Tryz.f8.params.toList (Tryz.f8.params.toList ++ Rows.fnExactWorkLeftSpec.plain.varTypes Tryz.prog ++ Tryz.f8.resultTypes.toList)) = true := by kernel_rfl
theorem joinedWorkLeft : joinedFacts Tryz.prog 8 Tryz.f8 Rows.fnExactWorkLeftSpec Rows.fnExactWorkLeftRow = true := by
  unfold joinedFacts
  rw [jWorkLeft0, jWorkLeft1, jWorkLeft2, jWorkLeft3, jWorkLeft4, jWorkLeft5, jWorkLeft6, jWorkLeft7, jWorkLeft8, jWorkLeft9, jWorkLeft10, jWorkLeft11, jWorkLeft12, jWorkLeft13, jWorkLeft14, jWorkLeft15, jWorkLeft16, jWorkLeft17, jWorkLeft18, jWorkLeft19, jWorkLeft20, jWorkLeft21, jWorkLeft22, jWorkLeft23]
  kernel_rfl
end Go.Proofs.YtdfdabjdfmamgaaGreat

