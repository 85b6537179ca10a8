/-
  What the frames of this seat's laws share.
-/
import Derived.Test.YtbpalgildbodkaaBase
import Derived.Test.YtbpalgildbodkaaRows
namespace Go.Proofs.Ytbpalgildbodkaa
theorem ownKnob_ : ownKnob Try.prog.godebug = none := by kernel_rfl
theorem laidOut_ : laidOutB Try.prog = true := by kernel_rfl
end Go.Proofs.Ytbpalgildbodkaa
