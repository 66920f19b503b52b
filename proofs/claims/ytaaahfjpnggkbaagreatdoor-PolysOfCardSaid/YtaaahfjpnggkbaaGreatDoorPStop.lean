/- Where a walk stands still. -/
import Derived.Test.YtaaahfjpnggkbaaGreatDoorPA
namespace Go.Proofs.YtaaahfjpnggkbaaGreatDoor
def Stop (p : Prop) : Prop := p
theorem cutHere {p : Prop} (h : Stop p) : p := h
end Go.Proofs.YtaaahfjpnggkbaaGreatDoor
