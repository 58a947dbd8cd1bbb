import Derived.Test.YtoeofekglbdemaaGreatMG
import Derived.JoinedOf
namespace Go.Proofs.YtoeofekglbdemaaGreat
open Go.AM
theorem jServe0 : (Rows.fnExactServeRow.wf (OpenSpec.ofChange Rows.fnExactServeSpec)) = true:=by kernel_rfl
theorem jServe1 : (laidOutB Tryz.prog) = true:=by kernel_rfl
theorem jServe2 : (mapsRowed Tryz.prog) = true:=by kernel_rfl
theorem jServe3 : (Tryz.f3.params.all (Tryz.prog.readableRec ·)) = true:=by kernel_rfl
theorem jServe4 : (namedTie Tryz.prog Rows.fnExactServeRow.named Rows.fnExactServeSpec.vars) = true:=by kernel_rfl
theorem jServe5 : ((Rows.fnExactServeRow.inPlace == Tryz.prog.inPlace 3)) = true:=by kernel_rfl
theorem jServe6 : ((Rows.fnExactServeRow.unfollowed == Tryz.prog.unfollowed 3)) = true:=by kernel_rfl
theorem jServe7 : ((Rows.fnExactServeRow.recurses == Tryz.prog.recurses 3)) = true:=by kernel_rfl
theorem jServe8 : ((Rows.fnExactServeRow.named == Tryz.prog.varsNamed 3)) = true:=by kernel_rfl
theorem jServe9 : ((Rows.fnExactServeRow.maps == (Tryz.f3.params.toList ++ Rows.fnExactServeSpec.plain.varTypes Tryz.prog).any (Tryz.prog.mapsRec ·))) = true:=by kernel_rfl
theorem jServe10 : ((Rows.fnExactServeRow.ifaces == (Tryz.f3.params.toList ++ Rows.fnExactServeSpec.plain.varTypes Tryz.prog).any (Tryz.prog.ifacesRec ·))) = true:=by kernel_rfl
theorem jServe11 : ((Rows.fnExactServeRow.mapsOut == Tryz.prog.mapsAmong Tryz.f3.resultTypes.toList)) = true:=by kernel_rfl
theorem jServe12 : ((Rows.fnExactServeRow.loops == (Tryz.f3.params.toList ++ Rows.fnExactServeSpec.plain.varTypes Tryz.prog).any (Tryz.prog.loopsFrom ·))) = true:=by kernel_rfl
theorem jServe13 : ((Rows.fnExactServeRow.wideKeys == (Tryz.f3.params.toList ++ Rows.fnExactServeSpec.plain.varTypes Tryz.prog ++ Tryz.f3.resultTypes.toList).any (Tryz.prog.wideKeysFrom ·))) = true:=by kernel_rfl
theorem jServe14 : (Tryz.f3.resultTypes.all (fun t=>Tryz.prog.readableRec t && decide (t < Tryz.prog.types.size))) = true:=by kernel_rfl
theorem jServe15 : ((Rows.fnExactServeRow.ifacesOut == Tryz.f3.resultTypes.toList.any (Tryz.prog.ifacesRec ·))) = true:=by kernel_rfl
theorem jServe16 : ((Rows.fnExactServeRow.loopsOut == Tryz.f3.resultTypes.toList.any (Tryz.prog.loopsFrom ·))) = true:=by kernel_rfl
theorem jServe17 : ((Rows.fnExactServeRow.plainKeys == Tryz.prog.plainKeys)) = true:=by kernel_rfl
theorem jServe18 : (Tryz.prog.stopsHeard) = true:=by kernel_rfl
theorem jServe19 : (Tryz.prog.mayEnter) = true:=by kernel_rfl
theorem jServe20 : ((Rows.fnExactServeRow.lifted == Tryz.prog.liftsFinal)) = true:=by kernel_rfl
theorem jServe21 : ((Tryz.prog.make == some Rows.fnExactServeRow.make)) = true:=by kernel_rfl
theorem jServe22 : ((Rows.fnExactServeRow.veiled == (Tryz.f3.params.toList ++ Rows.fnExactServeSpec.plain.varTypes Tryz.prog ++ Tryz.f3.resultTypes.toList).any (Tryz.prog.veiledRec ·))) = true:=by kernel_rfl
theorem jServe23 : (Rows.fnExactServeRow.veiledFits Tryz.prog Tryz.f3.params.toList (Tryz.f3.params.toList ++ Rows.fnExactServeSpec.plain.varTypes Tryz.prog ++ Tryz.f3.resultTypes.toList)) = true:=by kernel_rfl
theorem joinedServe : joinedFacts Tryz.prog 3 Tryz.f3 Rows.fnExactServeSpec Rows.fnExactServeRow = true:=by
 unfold joinedFacts;rw [jServe0,jServe1,jServe2,jServe3,jServe4,jServe5,jServe6,jServe7,jServe8,jServe9,jServe10,jServe11,jServe12,jServe13,jServe14,jServe15,jServe16,jServe17,jServe18,jServe19,jServe20,jServe21,jServe22,jServe23]
 kernel_rfl
end Go.Proofs.YtoeofekglbdemaaGreat
