import Derived.Test.YtdfdabjdfmamgaaGreatMG
import Derived.JoinedOf
/-
  The closed facts of the row Served: what the program says of itself, counted.
-/
namespace Go.Proofs.YtdfdabjdfmamgaaGreat
open Go.AM
theorem jServed0 : (Rows.fnExactServedRow.wf (OpenSpec.ofChange Rows.fnExactServedSpec)) = true := by kernel_rfl
theorem jServed1 : (laidOutB Tryz.prog) = true := by kernel_rfl
theorem jServed2 : (mapsRowed Tryz.prog) = true := by kernel_rfl
theorem jServed3 : (Tryz.f9.params.all (Tryz.prog.readableRec ·)) = true := by kernel_rfl
theorem jServed4 : (namedTie Tryz.prog Rows.fnExactServedRow.named Rows.fnExactServedSpec.vars) = true := by kernel_rfl
theorem jServed5 : ((Rows.fnExactServedRow.inPlace == Tryz.prog.inPlace 9)) = true := by kernel_rfl
theorem jServed6 : ((Rows.fnExactServedRow.unfollowed == Tryz.prog.unfollowed 9)) = true := by kernel_rfl
theorem jServed7 : ((Rows.fnExactServedRow.recurses == Tryz.prog.recurses 9)) = true := by kernel_rfl
theorem jServed8 : ((Rows.fnExactServedRow.named == Tryz.prog.varsNamed 9)) = true := by kernel_rfl
theorem jServed9 : ((Rows.fnExactServedRow.maps == (Tryz.f9.params.toList ++ Rows.fnExactServedSpec.plain.varTypes Tryz.prog).any (Tryz.prog.mapsRec ·))) = true := by kernel_rfl
theorem jServed10 : ((Rows.fnExactServedRow.ifaces == (Tryz.f9.params.toList ++ Rows.fnExactServedSpec.plain.varTypes Tryz.prog).any (Tryz.prog.ifacesRec ·))) = true := by kernel_rfl
theorem jServed11 : ((Rows.fnExactServedRow.mapsOut == Tryz.prog.mapsAmong Tryz.f9.resultTypes.toList)) = true := by kernel_rfl
theorem jServed12 : ((Rows.fnExactServedRow.loops == (Tryz.f9.params.toList ++ Rows.fnExactServedSpec.plain.varTypes Tryz.prog).any (Tryz.prog.loopsFrom ·))) = true := by kernel_rfl
theorem jServed13 : ((Rows.fnExactServedRow.wideKeys == (Tryz.f9.params.toList ++ Rows.fnExactServedSpec.plain.varTypes Tryz.prog ++ Tryz.f9.resultTypes.toList).any (Tryz.prog.wideKeysFrom ·))) = true := by kernel_rfl
theorem jServed14 : (Tryz.f9.resultTypes.all (fun t => Tryz.prog.readableRec t && decide (t < Tryz.prog.types.size))) = true := by kernel_rfl
theorem jServed15 : ((Rows.fnExactServedRow.ifacesOut == Tryz.f9.resultTypes.toList.any (Tryz.prog.ifacesRec ·))) = true := by kernel_rfl
theorem jServed16 : ((Rows.fnExactServedRow.loopsOut == Tryz.f9.resultTypes.toList.any (Tryz.prog.loopsFrom ·))) = true := by kernel_rfl
theorem jServed17 : ((Rows.fnExactServedRow.plainKeys == Tryz.prog.plainKeys)) = true := by kernel_rfl
theorem jServed18 : (Tryz.prog.stopsHeard) = true := by kernel_rfl
theorem jServed19 : (Tryz.prog.mayEnter) = true := by kernel_rfl
theorem jServed20 : ((Rows.fnExactServedRow.lifted == Tryz.prog.liftsFinal)) = true := by kernel_rfl
theorem jServed21 : ((Tryz.prog.make == some Rows.fnExactServedRow.make)) = true := by kernel_rfl
theorem jServed22 : ((Rows.fnExactServedRow.veiled == (Tryz.f9.params.toList ++ Rows.fnExactServedSpec.plain.varTypes Tryz.prog ++ Tryz.f9.resultTypes.toList).any (Tryz.prog.veiledRec ·))) = true := by kernel_rfl
theorem jServed23 : (Rows.fnExactServedRow.veiledFits Tryz.prog Tryz.f9.params.toList (Tryz.f9.params.toList ++ Rows.fnExactServedSpec.plain.varTypes Tryz.prog ++ Tryz.f9.resultTypes.toList)) = true := by kernel_rfl
theorem joinedServed : joinedFacts Tryz.prog 9 Tryz.f9 Rows.fnExactServedSpec Rows.fnExactServedRow = true := by
  unfold joinedFacts
  rw [jServed0, jServed1, jServed2, jServed3, jServed4, jServed5, jServed6, jServed7, jServed8, jServed9, jServed10, jServed11, jServed12, jServed13, jServed14, jServed15, jServed16, jServed17, jServed18, jServed19, jServed20, jServed21, jServed22, jServed23]
  kernel_rfl
end Go.Proofs.YtdfdabjdfmamgaaGreat

