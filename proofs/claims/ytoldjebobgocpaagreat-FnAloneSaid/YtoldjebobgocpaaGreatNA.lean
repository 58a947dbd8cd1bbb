import Derived.Test.YtoldjebobgocpaaGreatMH
namespace Go.Proofs.YtoldjebobgocpaaGreat
open Go.AM
set_option maxRecDepth 20000
set_option maxHeartbeats 1600000
def Cm (s : ByteArray) : List CD:=[.v (.string s)]
@[simp] theorem OS (s : ByteArray) : (Cm s).length = 1:=rfl
open Go.AM Go.ChangeShapes Go.WideShapes Go.ChangeAt Go.RowKit
theorem own : ownKnob Tryz.prog.godebug = none:=by kernel_rfl
theorem RK : laidOutB Tryz.prog = true:=by kernel_rfl
end Go.Proofs.YtoldjebobgocpaaGreat
