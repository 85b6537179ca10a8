/-
  Valid values: IsValidValue of the program at a list: the walk.
-/
import Derived.Test.YtefhaochkfodnaaN6ta
import Derived.Test.YtefhaochkfodnaaN6tb
import Derived.Test.YtefhaochkfodnaaN6tc
import Derived.Test.YtefhaochkfodnaaN6td
namespace Go.Proofs.Ytefhaochkfodnaa
theorem implValid3 (k n s : Int) (t : ByteArray) (l : List Vl) (cl : List ByteArray) (r : List Rw) (ih : ∀ x, x ∈ l → ValidQ 28 x) (k3 : k = 3) : ValidQ 28 (.mk k n s t l cl r) := by
  by_cases h1 : l.length = 0
  · by_cases h2 : cl.length = 0
    · by_cases h3 : r.length = 0
      · exact implValid3d k n s t l cl r ih k3 h1 h2 h3
      · exact implValid3c k n s t l cl r ih k3 h1 h2 h3
    · exact implValid3b k n s t l cl r ih k3 h1 h2
  · exact implValid3a k n s t l cl r ih k3 h1
end Go.Proofs.Ytefhaochkfodnaa
