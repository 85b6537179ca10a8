/-
  What the frames of this seat's laws share.
-/
import Derived.Test.YtnfhbppmbpgfaaaDoorBase
import Derived.Test.YtnfhbppmbpgfaaaDoorRows
namespace Go.Proofs.YtnfhbppmbpgfaaaDoor
theorem ownKnob_ : ownKnob Tryd.prog.godebug = none := by kernel_rfl
theorem laidOut_ : laidOutB Tryd.prog = true := by kernel_rfl
end Go.Proofs.YtnfhbppmbpgfaaaDoor
