/- Where a walk stands still. -/
import Derived.Test.YtgfoeongjhkdmaaGreatRA
namespace Go.Proofs.YtgfoeongjhkdmaaGreat
def Stop (p : Prop) : Prop := p
theorem cutHere {p : Prop} (h : Stop p) : p := h
end Go.Proofs.YtgfoeongjhkdmaaGreat
