/-
  What the frames of this seat's laws share.
-/
import Derived.Test.YtjjmbldgemnhbaaDoorBase
import Derived.Test.YtjjmbldgemnhbaaDoorRows
namespace Go.Proofs.YtjjmbldgemnhbaaDoor
theorem ownKnob_ : ownKnob Tryd.prog.godebug = none := by kernel_rfl
theorem laidOut_ : laidOutB Tryd.prog = true := by kernel_rfl
end Go.Proofs.YtjjmbldgemnhbaaDoor
