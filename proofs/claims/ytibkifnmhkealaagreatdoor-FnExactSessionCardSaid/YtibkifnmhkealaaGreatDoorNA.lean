import Derived.Test.YtibkifnmhkealaaGreatDoorMH

namespace Go.Proofs.YtibkifnmhkealaaGreatDoor
open Go.AM Go.ChangeShapes Go.WideShapes Go.ChangeAt Go.RowKit
set_option maxRecDepth 20000
theorem own:ownKnob Tryz.prog.godebug=none:=by kernel_rfl
theorem laid:laidOutB Tryz.prog=true:=by kernel_rfl
theorem mL:maxLen=9223372036854775807:=rfl
end Go.Proofs.YtibkifnmhkealaaGreatDoor
