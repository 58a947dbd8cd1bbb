import Derived.Test.YtoldjebobgocpaaGreatMH
namespace Go.Proofs.YtoldjebobgocpaaGreat
open Go.AM
set_option maxRecDepth 20000
set_option maxHeartbeats 1600000
def D6 (s:ByteArray):List CD:=[.v (.string s)]
@[simp] theorem Q3 (s:ByteArray):(D6 s).length=1:=rfl
open Go.AM Go.ChangeShapes Go.WideShapes Go.ChangeAt Go.RowKit
theorem own:ownKnob Tryz.prog.godebug=none:=by kernel_rfl
theorem T6:laidOutB Tryz.prog=true:=by kernel_rfl
end Go.Proofs.YtoldjebobgocpaaGreat
