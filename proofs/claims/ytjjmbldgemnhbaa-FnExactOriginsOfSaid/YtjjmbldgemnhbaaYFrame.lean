/-
  What the frames of this seat's laws share.
-/
import Derived.Test.YtjjmbldgemnhbaaYBase
import Derived.Test.YtjjmbldgemnhbaaRows
namespace Go.Proofs.Ytjjmbldgemnhbaa
theorem ownKnob_ : ownKnob Try.prog.godebug = none := by kernel_rfl
theorem laidOut_ : laidOutB Try.prog = true := by kernel_rfl
end Go.Proofs.Ytjjmbldgemnhbaa
