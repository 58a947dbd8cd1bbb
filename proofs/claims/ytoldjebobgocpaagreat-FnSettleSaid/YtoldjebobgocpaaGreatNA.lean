import Derived.Test.YtoldjebobgocpaaGreatMH
namespace Go.Proofs.YtoldjebobgocpaaGreat
open Go.AM
set_option maxRecDepth 20000
open Go.AM Go.ChangeShapes Go.WideShapes Go.ChangeAt Go.RowKit
theorem own : ownKnob Tryz.prog.godebug = none:=by kernel_rfl
theorem Np : laidOutB Tryz.prog = true:=by kernel_rfl
end Go.Proofs.YtoldjebobgocpaaGreat
