/-
  FnExactIsValidText, FnExactArgumentCount, FnExactIsReserved: the walks of the laws and of what they call.
-/
import Derived.Test.YtnfhbppmbpgfaaaFrame
import Derived.Test.YtnfhbppmbpgfaaaWords
namespace Go.Proofs.Ytnfhbppmbpgfaaa
open Go.ChangeShapes Go.WideShapes Go.ChangeAt Go.RowKit
open Go.ChangeMaps (open_string shut_string)
set_option linter.unusedVariables false
set_option linter.unusedSimpArgs false

def okByte (c : UInt8) : Bool := decide (32 ≤ c.toNat) && decide (c.toNat ≤ 126) && !decide (c.toNat = 34)
def validText (s : ByteArray) : Bool := s.data.toList.all okByte && decide (s.size ≤ 20)

theorem all_get {p : UInt8 → Bool} {s : ByteArray} (h : ∀ j, (hj : j < s.size) → p (s[j]'hj) = true) : s.data.toList.all p = true := by
  rw [List.all_eq_true]
  intro x hx
  obtain ⟨j, hj, rfl⟩ := List.getElem_of_mem hx
  exact h j (by simpa using hj)
theorem all_not {p : UInt8 → Bool} {s : ByteArray} {j : Nat} (hj : j < s.size) (h : p (s[j]'hj) = false) : s.data.toList.all p = false := by
  rw [List.all_eq_false]
  exact ⟨s[j], by simp only [ByteArray.getElem_eq_getElem_data]; exact Array.getElem_mem_toList _, by simp [h]⟩


theorem implArgumentCount (s : ByteArray) (w : World) (hs : s.size ≤ maxLen) : Calls Try.prog 19 #[.string s] w fun e w' => e = .returned (.int .i64 (argCount s)) ∧ Later w w' := by
  rcases arg_ways s with ⟨h0, hr⟩ | ⟨h0, h1, hr⟩ | ⟨h0, h1, h2, hr⟩ | ⟨h0, h1, h2, h3, hr⟩ | ⟨h0, h1, h2, h3, h4, hr⟩ | ⟨h0, h1, h2, h3, h4, h5, hr⟩ | ⟨h0, h1, h2, h3, h4, h5, h6, hr⟩ | ⟨h0, h1, h2, h3, h4, h5, h6, h7, hr⟩ | ⟨h0, h1, h2, h3, h4, h5, h6, h7, h8, hr⟩ | ⟨h0, h1, h2, h3, h4, h5, h6, h7, h8, h9, hr⟩ | ⟨h0, h1, h2, h3, h4, h5, h6, h7, h8, h9, h10, hr⟩ | ⟨h0, h1, h2, h3, h4, h5, h6, h7, h8, h9, h10, h11, hr⟩ | ⟨h0, h1, h2, h3, h4, h5, h6, h7, h8, h9, h10, h11, h12, hr⟩ | ⟨h0, h1, h2, h3, h4, h5, h6, h7, h8, h9, h10, h11, h12, h13, hr⟩ | ⟨h0, h1, h2, h3, h4, h5, h6, h7, h8, h9, h10, h11, h12, h13, h14, hr⟩ | ⟨h0, h1, h2, h3, h4, h5, h6, h7, h8, h9, h10, h11, h12, h13, h14, h15, hr⟩ | ⟨h0, h1, h2, h3, h4, h5, h6, h7, h8, h9, h10, h11, h12, h13, h14, h15, h16, hr⟩ | ⟨h0, h1, h2, h3, h4, h5, h6, h7, h8, h9, h10, h11, h12, h13, h14, h15, h16, hr⟩
  all_goals
    go_enter Try.func19, Try.ntmps19
    go_wp2
    go_ret
    exact ⟨ret_int hr.out.symm, Later.rfl' _⟩

theorem implIsReserved (s : ByteArray) (w : World) (hs : s.size ≤ maxLen) : Calls Try.prog 8 #[.string s] w fun e w' => e = .returned (.bool (isReserved s)) ∧ Later w w' := by
  rcases kw_ways s with ⟨h0, hr⟩ | ⟨h0, h1, hr⟩ | ⟨h0, h1, h2, hr⟩ | ⟨h0, h1, h2, h3, hr⟩ | ⟨h0, h1, h2, h3, h4, hr⟩ | ⟨h0, h1, h2, h3, h4, h5, hr⟩ | ⟨h0, h1, h2, h3, h4, h5, h6, hr⟩ | ⟨h0, h1, h2, h3, h4, h5, h6, hr⟩
  case inr.inr.inr.inr.inr.inr.inr =>
    go_enter Try.func8, Try.ntmps8
    go_wp2_with (first | (go_at_call 19; refine (implArgumentCount _ _ hs).mono ?_; rintro e w1 ⟨rfl, hb1⟩))
    go_ret
    exact ⟨ret_bool hr.out.symm, hb1⟩
  all_goals
    go_enter Try.func8, Try.ntmps8
    go_wp2
    go_ret
    exact ⟨ret_bool hr.out.symm, Later.rfl' _⟩

end Go.Proofs.Ytnfhbppmbpgfaaa
