import Derived.Test.YtmccaifipoohfaaGreatDoorMH

namespace Go.Proofs.YtmccaifipoohfaaGreatDoor
open Go.AM Go.ChangeShapes Go.WideShapes Go.ChangeAt Go.RowKit
set_option maxRecDepth 20000
theorem own:ownKnob Tryz.prog.godebug=none:=ah
theorem laid:laidOutB Tryz.prog=true:=ah
end Go.Proofs.YtmccaifipoohfaaGreatDoor
