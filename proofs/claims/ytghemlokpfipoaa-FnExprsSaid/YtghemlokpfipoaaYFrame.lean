/-
  What the frames of this seat's laws share.
-/
import Derived.Test.YtghemlokpfipoaaYBase
import Derived.Test.YtghemlokpfipoaaRows
namespace Go.Proofs.Ytghemlokpfipoaa
theorem ownKnob_ : ownKnob Try.prog.godebug = none := by kernel_rfl
theorem laidOut_ : laidOutB Try.prog = true := by kernel_rfl
end Go.Proofs.Ytghemlokpfipoaa
