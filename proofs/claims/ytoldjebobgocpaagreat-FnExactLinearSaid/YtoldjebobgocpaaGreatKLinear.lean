import Derived.Test.YtoldjebobgocpaaGreatMH
import Derived.JoinedOf
namespace Go.Proofs.YtoldjebobgocpaaGreat
open Go.AM
theorem Eg : (Rows.fnExactLinearRow.wf (OpenSpec.ofChange Rows.fnExactLinearSpec)) = true:=by kernel_rfl
theorem Ef : (laidOutB Tryz.prog) = true:=by kernel_rfl
theorem Ee : (mapsRowed Tryz.prog) = true:=by kernel_rfl
theorem Ed : (Tryz.f5.params.all (Tryz.prog.readableRec ·)) = true:=by kernel_rfl
theorem Ec : (namedTie Tryz.prog Rows.fnExactLinearRow.named Rows.fnExactLinearSpec.vars) = true:=by kernel_rfl
theorem Eb : ((Rows.fnExactLinearRow.inPlace == Tryz.prog.inPlace 5)) = true:=by kernel_rfl
theorem Ea : ((Rows.fnExactLinearRow.unfollowed == Tryz.prog.unfollowed 5)) = true:=by kernel_rfl
theorem D9 : ((Rows.fnExactLinearRow.recurses == Tryz.prog.recurses 5)) = true:=by kernel_rfl
theorem D8 : ((Rows.fnExactLinearRow.named == Tryz.prog.varsNamed 5)) = true:=by kernel_rfl
theorem D7 : ((Rows.fnExactLinearRow.maps == (Tryz.f5.params.toList ++ Rows.fnExactLinearSpec.plain.varTypes Tryz.prog).any (Tryz.prog.mapsRec ·))) = true:=by kernel_rfl
theorem AR : ((Rows.fnExactLinearRow.ifaces == (Tryz.f5.params.toList ++ Rows.fnExactLinearSpec.plain.varTypes Tryz.prog).any (Tryz.prog.ifacesRec ·))) = true:=by kernel_rfl
theorem AQ : ((Rows.fnExactLinearRow.mapsOut == Tryz.prog.mapsAmong Tryz.f5.resultTypes.toList)) = true:=by kernel_rfl
theorem AP : ((Rows.fnExactLinearRow.loops == (Tryz.f5.params.toList ++ Rows.fnExactLinearSpec.plain.varTypes Tryz.prog).any (Tryz.prog.loopsFrom ·))) = true:=by kernel_rfl
theorem AO : ((Rows.fnExactLinearRow.wideKeys == (Tryz.f5.params.toList ++ Rows.fnExactLinearSpec.plain.varTypes Tryz.prog ++ Tryz.f5.resultTypes.toList).any (Tryz.prog.wideKeysFrom ·))) = true:=by kernel_rfl
theorem AN : (Tryz.f5.resultTypes.all (λt=>Tryz.prog.readableRec t && decide (t < Tryz.prog.types.size))) = true:=by kernel_rfl
theorem AL : ((Rows.fnExactLinearRow.ifacesOut == Tryz.f5.resultTypes.toList.any (Tryz.prog.ifacesRec ·))) = true:=by kernel_rfl
theorem AK : ((Rows.fnExactLinearRow.loopsOut == Tryz.f5.resultTypes.toList.any (Tryz.prog.loopsFrom ·))) = true:=by kernel_rfl
theorem AJ : ((Rows.fnExactLinearRow.plainKeys == Tryz.prog.plainKeys)) = true:=by kernel_rfl
theorem AI : (Tryz.prog.stopsHeard) = true:=by kernel_rfl
theorem AG : (Tryz.prog.mayEnter) = true:=by kernel_rfl
theorem AF : ((Rows.fnExactLinearRow.lifted == Tryz.prog.liftsFinal)) = true:=by kernel_rfl
theorem AE : ((Tryz.prog.make == some Rows.fnExactLinearRow.make)) = true:=by kernel_rfl
theorem AD : ((Rows.fnExactLinearRow.veiled == (Tryz.f5.params.toList ++ Rows.fnExactLinearSpec.plain.varTypes Tryz.prog ++ Tryz.f5.resultTypes.toList).any (Tryz.prog.veiledRec ·))) = true:=by kernel_rfl
theorem AC : (Rows.fnExactLinearRow.veiledFits Tryz.prog Tryz.f5.params.toList (Tryz.f5.params.toList ++ Rows.fnExactLinearSpec.plain.varTypes Tryz.prog ++ Tryz.f5.resultTypes.toList)) = true:=by kernel_rfl
theorem ug : joinedFacts Tryz.prog 5 Tryz.f5 Rows.fnExactLinearSpec Rows.fnExactLinearRow = true:=by
 unfold joinedFacts;rw [Eg,Ef,Ee,Ed,Ec,Eb,Ea,D9,D8,D7,AR,AQ,AP,AO,AN,AL,AK,AJ,AI,AG,AF,AE,AD,AC]
 kernel_rfl
end Go.Proofs.YtoldjebobgocpaaGreat
