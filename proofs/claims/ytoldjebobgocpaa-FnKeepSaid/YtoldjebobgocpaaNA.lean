import Derived.Test.YtoldjebobgocpaaMH

namespace Go.Proofs.Ytoldjebobgocpaa
open Go.AM Go.ChangeShapes Go.WideShapes Go.ChangeAt Go.RowKit
set_option maxRecDepth 20000
theorem own : ownKnob Try.prog.godebug = none:=by kernel_rfl
theorem IG : laidOutB Try.prog = true:=by kernel_rfl
end Go.Proofs.Ytoldjebobgocpaa
