import Derived.Test.YtoldjebobgocpaaGreatMH
namespace Go.Proofs.YtoldjebobgocpaaGreat
open Go.AM
set_option maxRecDepth 20000
set_option maxHeartbeats 1600000
def Ci (s : ByteArray) : List CD:=[.v (.string s)]
@[simp] theorem OL (s : ByteArray) : (Ci s).length = 1:=rfl
open Go.AM Go.ChangeShapes Go.WideShapes Go.ChangeAt Go.RowKit
theorem own : ownKnob Tryz.prog.godebug = none:=by kernel_rfl
theorem RG : laidOutB Tryz.prog = true:=by kernel_rfl
end Go.Proofs.YtoldjebobgocpaaGreat
