/-
  Plain words on names: which function has how many arguments, which words are reserved.
-/
import Derived.Test.YtjjmbldgemnhbaaYBase
namespace Go.Proofs.Ytjjmbldgemnhbaa
open Go.RowKit
set_option linter.unusedVariables false
set_option linter.unusedSimpArgs false

def argTable : List (List UInt8 × Int) := [
  ([99, 108, 111, 99, 107], 0), ([108, 101, 110], 1), ([115, 117, 109], 1), ([114, 111, 119, 115], 1), ([99, 104, 97, 110, 99, 101], 1), ([102, 105, 108, 101], 1),
  ([116, 97, 107, 101], 2), ([115, 107, 105, 112], 2), ([114, 97, 110, 103, 101], 2), ([110, 116, 104], 2), ([107, 101, 101, 112], 2), ([99, 111, 108, 117, 109, 110], 2), ([116, 97, 98, 108, 101], 2),
  ([119, 104, 101, 114, 101], 3), ([103, 114, 111, 117, 112], 3), ([106, 111, 105, 110], 3), ([97, 100, 100], 4)]
def argCount (s : ByteArray) : Int := (argTable.lookup s.toList).getD (-1)
def keywords : List (List UInt8) := [[108, 101, 116], [105, 110], [105, 102], [116, 104, 101, 110], [101, 108, 115, 101], [102, 111, 114], [100, 111]]
def isReserved (s : ByteArray) : Bool := keywords.contains s.toList || decide (0 ≤ argCount s)

theorem lookup_nonneg (l : List UInt8) : ∀ t : List (List UInt8 × Int), (∀ x ∈ t, 0 ≤ x.2) → (0 ≤ (t.lookup l).getD (-1) ↔ l ∈ t.map (·.1))
  | [], _ => by simp
  | (k, c) :: t, h => by
    have ih := lookup_nonneg l t (fun x hx => h x (List.mem_cons_of_mem _ hx))
    have hc : 0 ≤ c := h (k, c) (List.mem_cons_self ..)
    by_cases e : l = k
    · subst e; simp [List.lookup, hc]
    · have e' : (l == k) = false := by simpa using e
      simp only [List.lookup, e', List.map_cons, List.mem_cons]
      rw [ih]
      simp [e]

/-- The ways through the switch on a name. -/
theorem arg_ways (s : ByteArray) : ((s.toList == [99, 108, 111, 99, 107]) = true ∧ Hid (argCount s = 0)) ∨
    ((s.toList == [99, 108, 111, 99, 107]) = false ∧ (s.toList == [108, 101, 110]) = true ∧ Hid (argCount s = 1)) ∨
    ((s.toList == [99, 108, 111, 99, 107]) = false ∧ (s.toList == [108, 101, 110]) = false ∧ (s.toList == [115, 117, 109]) = true ∧ Hid (argCount s = 1)) ∨
    ((s.toList == [99, 108, 111, 99, 107]) = false ∧ (s.toList == [108, 101, 110]) = false ∧ (s.toList == [115, 117, 109]) = false ∧ (s.toList == [114, 111, 119, 115]) = true ∧ Hid (argCount s = 1)) ∨
    ((s.toList == [99, 108, 111, 99, 107]) = false ∧ (s.toList == [108, 101, 110]) = false ∧ (s.toList == [115, 117, 109]) = false ∧ (s.toList == [114, 111, 119, 115]) = false ∧ (s.toList == [99, 104, 97, 110, 99, 101]) = true ∧ Hid (argCount s = 1)) ∨
    ((s.toList == [99, 108, 111, 99, 107]) = false ∧ (s.toList == [108, 101, 110]) = false ∧ (s.toList == [115, 117, 109]) = false ∧ (s.toList == [114, 111, 119, 115]) = false ∧ (s.toList == [99, 104, 97, 110, 99, 101]) = false ∧ (s.toList == [102, 105, 108, 101]) = true ∧ Hid (argCount s = 1)) ∨
    ((s.toList == [99, 108, 111, 99, 107]) = false ∧ (s.toList == [108, 101, 110]) = false ∧ (s.toList == [115, 117, 109]) = false ∧ (s.toList == [114, 111, 119, 115]) = false ∧ (s.toList == [99, 104, 97, 110, 99, 101]) = false ∧ (s.toList == [102, 105, 108, 101]) = false ∧ (s.toList == [116, 97, 107, 101]) = true ∧ Hid (argCount s = 2)) ∨
    ((s.toList == [99, 108, 111, 99, 107]) = false ∧ (s.toList == [108, 101, 110]) = false ∧ (s.toList == [115, 117, 109]) = false ∧ (s.toList == [114, 111, 119, 115]) = false ∧ (s.toList == [99, 104, 97, 110, 99, 101]) = false ∧ (s.toList == [102, 105, 108, 101]) = false ∧ (s.toList == [116, 97, 107, 101]) = false ∧ (s.toList == [115, 107, 105, 112]) = true ∧ Hid (argCount s = 2)) ∨
    ((s.toList == [99, 108, 111, 99, 107]) = false ∧ (s.toList == [108, 101, 110]) = false ∧ (s.toList == [115, 117, 109]) = false ∧ (s.toList == [114, 111, 119, 115]) = false ∧ (s.toList == [99, 104, 97, 110, 99, 101]) = false ∧ (s.toList == [102, 105, 108, 101]) = false ∧ (s.toList == [116, 97, 107, 101]) = false ∧ (s.toList == [115, 107, 105, 112]) = false ∧ (s.toList == [114, 97, 110, 103, 101]) = true ∧ Hid (argCount s = 2)) ∨
    ((s.toList == [99, 108, 111, 99, 107]) = false ∧ (s.toList == [108, 101, 110]) = false ∧ (s.toList == [115, 117, 109]) = false ∧ (s.toList == [114, 111, 119, 115]) = false ∧ (s.toList == [99, 104, 97, 110, 99, 101]) = false ∧ (s.toList == [102, 105, 108, 101]) = false ∧ (s.toList == [116, 97, 107, 101]) = false ∧ (s.toList == [115, 107, 105, 112]) = false ∧ (s.toList == [114, 97, 110, 103, 101]) = false ∧ (s.toList == [110, 116, 104]) = true ∧ Hid (argCount s = 2)) ∨
    ((s.toList == [99, 108, 111, 99, 107]) = false ∧ (s.toList == [108, 101, 110]) = false ∧ (s.toList == [115, 117, 109]) = false ∧ (s.toList == [114, 111, 119, 115]) = false ∧ (s.toList == [99, 104, 97, 110, 99, 101]) = false ∧ (s.toList == [102, 105, 108, 101]) = false ∧ (s.toList == [116, 97, 107, 101]) = false ∧ (s.toList == [115, 107, 105, 112]) = false ∧ (s.toList == [114, 97, 110, 103, 101]) = false ∧ (s.toList == [110, 116, 104]) = false ∧ (s.toList == [107, 101, 101, 112]) = true ∧ Hid (argCount s = 2)) ∨
    ((s.toList == [99, 108, 111, 99, 107]) = false ∧ (s.toList == [108, 101, 110]) = false ∧ (s.toList == [115, 117, 109]) = false ∧ (s.toList == [114, 111, 119, 115]) = false ∧ (s.toList == [99, 104, 97, 110, 99, 101]) = false ∧ (s.toList == [102, 105, 108, 101]) = false ∧ (s.toList == [116, 97, 107, 101]) = false ∧ (s.toList == [115, 107, 105, 112]) = false ∧ (s.toList == [114, 97, 110, 103, 101]) = false ∧ (s.toList == [110, 116, 104]) = false ∧ (s.toList == [107, 101, 101, 112]) = false ∧ (s.toList == [99, 111, 108, 117, 109, 110]) = true ∧ Hid (argCount s = 2)) ∨
    ((s.toList == [99, 108, 111, 99, 107]) = false ∧ (s.toList == [108, 101, 110]) = false ∧ (s.toList == [115, 117, 109]) = false ∧ (s.toList == [114, 111, 119, 115]) = false ∧ (s.toList == [99, 104, 97, 110, 99, 101]) = false ∧ (s.toList == [102, 105, 108, 101]) = false ∧ (s.toList == [116, 97, 107, 101]) = false ∧ (s.toList == [115, 107, 105, 112]) = false ∧ (s.toList == [114, 97, 110, 103, 101]) = false ∧ (s.toList == [110, 116, 104]) = false ∧ (s.toList == [107, 101, 101, 112]) = false ∧ (s.toList == [99, 111, 108, 117, 109, 110]) = false ∧ (s.toList == [116, 97, 98, 108, 101]) = true ∧ Hid (argCount s = 2)) ∨
    ((s.toList == [99, 108, 111, 99, 107]) = false ∧ (s.toList == [108, 101, 110]) = false ∧ (s.toList == [115, 117, 109]) = false ∧ (s.toList == [114, 111, 119, 115]) = false ∧ (s.toList == [99, 104, 97, 110, 99, 101]) = false ∧ (s.toList == [102, 105, 108, 101]) = false ∧ (s.toList == [116, 97, 107, 101]) = false ∧ (s.toList == [115, 107, 105, 112]) = false ∧ (s.toList == [114, 97, 110, 103, 101]) = false ∧ (s.toList == [110, 116, 104]) = false ∧ (s.toList == [107, 101, 101, 112]) = false ∧ (s.toList == [99, 111, 108, 117, 109, 110]) = false ∧ (s.toList == [116, 97, 98, 108, 101]) = false ∧ (s.toList == [119, 104, 101, 114, 101]) = true ∧ Hid (argCount s = 3)) ∨
    ((s.toList == [99, 108, 111, 99, 107]) = false ∧ (s.toList == [108, 101, 110]) = false ∧ (s.toList == [115, 117, 109]) = false ∧ (s.toList == [114, 111, 119, 115]) = false ∧ (s.toList == [99, 104, 97, 110, 99, 101]) = false ∧ (s.toList == [102, 105, 108, 101]) = false ∧ (s.toList == [116, 97, 107, 101]) = false ∧ (s.toList == [115, 107, 105, 112]) = false ∧ (s.toList == [114, 97, 110, 103, 101]) = false ∧ (s.toList == [110, 116, 104]) = false ∧ (s.toList == [107, 101, 101, 112]) = false ∧ (s.toList == [99, 111, 108, 117, 109, 110]) = false ∧ (s.toList == [116, 97, 98, 108, 101]) = false ∧ (s.toList == [119, 104, 101, 114, 101]) = false ∧ (s.toList == [103, 114, 111, 117, 112]) = true ∧ Hid (argCount s = 3)) ∨
    ((s.toList == [99, 108, 111, 99, 107]) = false ∧ (s.toList == [108, 101, 110]) = false ∧ (s.toList == [115, 117, 109]) = false ∧ (s.toList == [114, 111, 119, 115]) = false ∧ (s.toList == [99, 104, 97, 110, 99, 101]) = false ∧ (s.toList == [102, 105, 108, 101]) = false ∧ (s.toList == [116, 97, 107, 101]) = false ∧ (s.toList == [115, 107, 105, 112]) = false ∧ (s.toList == [114, 97, 110, 103, 101]) = false ∧ (s.toList == [110, 116, 104]) = false ∧ (s.toList == [107, 101, 101, 112]) = false ∧ (s.toList == [99, 111, 108, 117, 109, 110]) = false ∧ (s.toList == [116, 97, 98, 108, 101]) = false ∧ (s.toList == [119, 104, 101, 114, 101]) = false ∧ (s.toList == [103, 114, 111, 117, 112]) = false ∧ (s.toList == [106, 111, 105, 110]) = true ∧ Hid (argCount s = 3)) ∨
    ((s.toList == [99, 108, 111, 99, 107]) = false ∧ (s.toList == [108, 101, 110]) = false ∧ (s.toList == [115, 117, 109]) = false ∧ (s.toList == [114, 111, 119, 115]) = false ∧ (s.toList == [99, 104, 97, 110, 99, 101]) = false ∧ (s.toList == [102, 105, 108, 101]) = false ∧ (s.toList == [116, 97, 107, 101]) = false ∧ (s.toList == [115, 107, 105, 112]) = false ∧ (s.toList == [114, 97, 110, 103, 101]) = false ∧ (s.toList == [110, 116, 104]) = false ∧ (s.toList == [107, 101, 101, 112]) = false ∧ (s.toList == [99, 111, 108, 117, 109, 110]) = false ∧ (s.toList == [116, 97, 98, 108, 101]) = false ∧ (s.toList == [119, 104, 101, 114, 101]) = false ∧ (s.toList == [103, 114, 111, 117, 112]) = false ∧ (s.toList == [106, 111, 105, 110]) = false ∧ (s.toList == [97, 100, 100]) = true ∧ Hid (argCount s = 4)) ∨
    ((s.toList == [99, 108, 111, 99, 107]) = false ∧ (s.toList == [108, 101, 110]) = false ∧ (s.toList == [115, 117, 109]) = false ∧ (s.toList == [114, 111, 119, 115]) = false ∧ (s.toList == [99, 104, 97, 110, 99, 101]) = false ∧ (s.toList == [102, 105, 108, 101]) = false ∧ (s.toList == [116, 97, 107, 101]) = false ∧ (s.toList == [115, 107, 105, 112]) = false ∧ (s.toList == [114, 97, 110, 103, 101]) = false ∧ (s.toList == [110, 116, 104]) = false ∧ (s.toList == [107, 101, 101, 112]) = false ∧ (s.toList == [99, 111, 108, 117, 109, 110]) = false ∧ (s.toList == [116, 97, 98, 108, 101]) = false ∧ (s.toList == [119, 104, 101, 114, 101]) = false ∧ (s.toList == [103, 114, 111, 117, 112]) = false ∧ (s.toList == [106, 111, 105, 110]) = false ∧ (s.toList == [97, 100, 100]) = false ∧ Hid (argCount s = -1)) := by
  rcases Bool.eq_false_or_eq_true (s.toList == [99, 108, 111, 99, 107]) with h0 | h0
  · exact Or.inl ⟨h0, by unfold Hid; simp [argCount, argTable, List.lookup, h0]⟩
  rcases Bool.eq_false_or_eq_true (s.toList == [108, 101, 110]) with h1 | h1
  · exact Or.inr (Or.inl ⟨h0, h1, by unfold Hid; simp [argCount, argTable, List.lookup, h0, h1]⟩)
  rcases Bool.eq_false_or_eq_true (s.toList == [115, 117, 109]) with h2 | h2
  · exact Or.inr (Or.inr (Or.inl ⟨h0, h1, h2, by unfold Hid; simp [argCount, argTable, List.lookup, h0, h1, h2]⟩))
  rcases Bool.eq_false_or_eq_true (s.toList == [114, 111, 119, 115]) with h3 | h3
  · exact Or.inr (Or.inr (Or.inr (Or.inl ⟨h0, h1, h2, h3, by unfold Hid; simp [argCount, argTable, List.lookup, h0, h1, h2, h3]⟩)))
  rcases Bool.eq_false_or_eq_true (s.toList == [99, 104, 97, 110, 99, 101]) with h4 | h4
  · exact Or.inr (Or.inr (Or.inr (Or.inr (Or.inl ⟨h0, h1, h2, h3, h4, by unfold Hid; simp [argCount, argTable, List.lookup, h0, h1, h2, h3, h4]⟩))))
  rcases Bool.eq_false_or_eq_true (s.toList == [102, 105, 108, 101]) with h5 | h5
  · exact Or.inr (Or.inr (Or.inr (Or.inr (Or.inr (Or.inl ⟨h0, h1, h2, h3, h4, h5, by unfold Hid; simp [argCount, argTable, List.lookup, h0, h1, h2, h3, h4, h5]⟩)))))
  rcases Bool.eq_false_or_eq_true (s.toList == [116, 97, 107, 101]) with h6 | h6
  · exact Or.inr (Or.inr (Or.inr (Or.inr (Or.inr (Or.inr (Or.inl ⟨h0, h1, h2, h3, h4, h5, h6, by unfold Hid; simp [argCount, argTable, List.lookup, h0, h1, h2, h3, h4, h5, h6]⟩))))))
  rcases Bool.eq_false_or_eq_true (s.toList == [115, 107, 105, 112]) with h7 | h7
  · exact Or.inr (Or.inr (Or.inr (Or.inr (Or.inr (Or.inr (Or.inr (Or.inl ⟨h0, h1, h2, h3, h4, h5, h6, h7, by unfold Hid; simp [argCount, argTable, List.lookup, h0, h1, h2, h3, h4, h5, h6, h7]⟩)))))))
  rcases Bool.eq_false_or_eq_true (s.toList == [114, 97, 110, 103, 101]) with h8 | h8
  · exact Or.inr (Or.inr (Or.inr (Or.inr (Or.inr (Or.inr (Or.inr (Or.inr (Or.inl ⟨h0, h1, h2, h3, h4, h5, h6, h7, h8, by unfold Hid; simp [argCount, argTable, List.lookup, h0, h1, h2, h3, h4, h5, h6, h7, h8]⟩))))))))
  rcases Bool.eq_false_or_eq_true (s.toList == [110, 116, 104]) with h9 | h9
  · exact Or.inr (Or.inr (Or.inr (Or.inr (Or.inr (Or.inr (Or.inr (Or.inr (Or.inr (Or.inl ⟨h0, h1, h2, h3, h4, h5, h6, h7, h8, h9, by unfold Hid; simp [argCount, argTable, List.lookup, h0, h1, h2, h3, h4, h5, h6, h7, h8, h9]⟩)))))))))
  rcases Bool.eq_false_or_eq_true (s.toList == [107, 101, 101, 112]) with h10 | h10
  · exact Or.inr (Or.inr (Or.inr (Or.inr (Or.inr (Or.inr (Or.inr (Or.inr (Or.inr (Or.inr (Or.inl ⟨h0, h1, h2, h3, h4, h5, h6, h7, h8, h9, h10, by unfold Hid; simp [argCount, argTable, List.lookup, h0, h1, h2, h3, h4, h5, h6, h7, h8, h9, h10]⟩))))))))))
  rcases Bool.eq_false_or_eq_true (s.toList == [99, 111, 108, 117, 109, 110]) with h11 | h11
  · exact Or.inr (Or.inr (Or.inr (Or.inr (Or.inr (Or.inr (Or.inr (Or.inr (Or.inr (Or.inr (Or.inr (Or.inl ⟨h0, h1, h2, h3, h4, h5, h6, h7, h8, h9, h10, h11, by unfold Hid; simp [argCount, argTable, List.lookup, h0, h1, h2, h3, h4, h5, h6, h7, h8, h9, h10, h11]⟩)))))))))))
  rcases Bool.eq_false_or_eq_true (s.toList == [116, 97, 98, 108, 101]) with h12 | h12
  · exact Or.inr (Or.inr (Or.inr (Or.inr (Or.inr (Or.inr (Or.inr (Or.inr (Or.inr (Or.inr (Or.inr (Or.inr (Or.inl ⟨h0, h1, h2, h3, h4, h5, h6, h7, h8, h9, h10, h11, h12, by unfold Hid; simp [argCount, argTable, List.lookup, h0, h1, h2, h3, h4, h5, h6, h7, h8, h9, h10, h11, h12]⟩))))))))))))
  rcases Bool.eq_false_or_eq_true (s.toList == [119, 104, 101, 114, 101]) with h13 | h13
  · exact Or.inr (Or.inr (Or.inr (Or.inr (Or.inr (Or.inr (Or.inr (Or.inr (Or.inr (Or.inr (Or.inr (Or.inr (Or.inr (Or.inl ⟨h0, h1, h2, h3, h4, h5, h6, h7, h8, h9, h10, h11, h12, h13, by unfold Hid; simp [argCount, argTable, List.lookup, h0, h1, h2, h3, h4, h5, h6, h7, h8, h9, h10, h11, h12, h13]⟩)))))))))))))
  rcases Bool.eq_false_or_eq_true (s.toList == [103, 114, 111, 117, 112]) with h14 | h14
  · exact Or.inr (Or.inr (Or.inr (Or.inr (Or.inr (Or.inr (Or.inr (Or.inr (Or.inr (Or.inr (Or.inr (Or.inr (Or.inr (Or.inr (Or.inl ⟨h0, h1, h2, h3, h4, h5, h6, h7, h8, h9, h10, h11, h12, h13, h14, by unfold Hid; simp [argCount, argTable, List.lookup, h0, h1, h2, h3, h4, h5, h6, h7, h8, h9, h10, h11, h12, h13, h14]⟩))))))))))))))
  rcases Bool.eq_false_or_eq_true (s.toList == [106, 111, 105, 110]) with h15 | h15
  · exact Or.inr (Or.inr (Or.inr (Or.inr (Or.inr (Or.inr (Or.inr (Or.inr (Or.inr (Or.inr (Or.inr (Or.inr (Or.inr (Or.inr (Or.inr (Or.inl ⟨h0, h1, h2, h3, h4, h5, h6, h7, h8, h9, h10, h11, h12, h13, h14, h15, by unfold Hid; simp [argCount, argTable, List.lookup, h0, h1, h2, h3, h4, h5, h6, h7, h8, h9, h10, h11, h12, h13, h14, h15]⟩)))))))))))))))
  rcases Bool.eq_false_or_eq_true (s.toList == [97, 100, 100]) with h16 | h16
  · exact Or.inr (Or.inr (Or.inr (Or.inr (Or.inr (Or.inr (Or.inr (Or.inr (Or.inr (Or.inr (Or.inr (Or.inr (Or.inr (Or.inr (Or.inr (Or.inr (Or.inl ⟨h0, h1, h2, h3, h4, h5, h6, h7, h8, h9, h10, h11, h12, h13, h14, h15, h16, by unfold Hid; simp [argCount, argTable, List.lookup, h0, h1, h2, h3, h4, h5, h6, h7, h8, h9, h10, h11, h12, h13, h14, h15, h16]⟩))))))))))))))))
  exact Or.inr (Or.inr (Or.inr (Or.inr (Or.inr (Or.inr (Or.inr (Or.inr (Or.inr (Or.inr (Or.inr (Or.inr (Or.inr (Or.inr (Or.inr (Or.inr (Or.inr ⟨h0, h1, h2, h3, h4, h5, h6, h7, h8, h9, h10, h11, h12, h13, h14, h15, h16, by unfold Hid; simp [argCount, argTable, List.lookup, h0, h1, h2, h3, h4, h5, h6, h7, h8, h9, h10, h11, h12, h13, h14, h15, h16]⟩))))))))))))))))

theorem kw_ways (s : ByteArray) : ((s.toList == [108, 101, 116]) = true ∧ Hid (isReserved s = true)) ∨
    ((s.toList == [108, 101, 116]) = false ∧ (s.toList == [105, 110]) = true ∧ Hid (isReserved s = true)) ∨
    ((s.toList == [108, 101, 116]) = false ∧ (s.toList == [105, 110]) = false ∧ (s.toList == [105, 102]) = true ∧ Hid (isReserved s = true)) ∨
    ((s.toList == [108, 101, 116]) = false ∧ (s.toList == [105, 110]) = false ∧ (s.toList == [105, 102]) = false ∧ (s.toList == [116, 104, 101, 110]) = true ∧ Hid (isReserved s = true)) ∨
    ((s.toList == [108, 101, 116]) = false ∧ (s.toList == [105, 110]) = false ∧ (s.toList == [105, 102]) = false ∧ (s.toList == [116, 104, 101, 110]) = false ∧ (s.toList == [101, 108, 115, 101]) = true ∧ Hid (isReserved s = true)) ∨
    ((s.toList == [108, 101, 116]) = false ∧ (s.toList == [105, 110]) = false ∧ (s.toList == [105, 102]) = false ∧ (s.toList == [116, 104, 101, 110]) = false ∧ (s.toList == [101, 108, 115, 101]) = false ∧ (s.toList == [102, 111, 114]) = true ∧ Hid (isReserved s = true)) ∨
    ((s.toList == [108, 101, 116]) = false ∧ (s.toList == [105, 110]) = false ∧ (s.toList == [105, 102]) = false ∧ (s.toList == [116, 104, 101, 110]) = false ∧ (s.toList == [101, 108, 115, 101]) = false ∧ (s.toList == [102, 111, 114]) = false ∧ (s.toList == [100, 111]) = true ∧ Hid (isReserved s = true)) ∨
    ((s.toList == [108, 101, 116]) = false ∧ (s.toList == [105, 110]) = false ∧ (s.toList == [105, 102]) = false ∧ (s.toList == [116, 104, 101, 110]) = false ∧ (s.toList == [101, 108, 115, 101]) = false ∧ (s.toList == [102, 111, 114]) = false ∧ (s.toList == [100, 111]) = false ∧ Hid (isReserved s = decide (0 ≤ argCount s))) := by
  rcases Bool.eq_false_or_eq_true (s.toList == [108, 101, 116]) with h0 | h0
  · exact Or.inl ⟨h0, by unfold Hid; simp only [isReserved, keywords, List.contains_cons, List.contains_nil, h0, Bool.or_true, Bool.true_or, Bool.or_false, Bool.false_or]⟩
  rcases Bool.eq_false_or_eq_true (s.toList == [105, 110]) with h1 | h1
  · exact Or.inr (Or.inl ⟨h0, h1, by unfold Hid; simp only [isReserved, keywords, List.contains_cons, List.contains_nil, h0, h1, Bool.or_true, Bool.true_or, Bool.or_false, Bool.false_or]⟩)
  rcases Bool.eq_false_or_eq_true (s.toList == [105, 102]) with h2 | h2
  · exact Or.inr (Or.inr (Or.inl ⟨h0, h1, h2, by unfold Hid; simp only [isReserved, keywords, List.contains_cons, List.contains_nil, h0, h1, h2, Bool.or_true, Bool.true_or, Bool.or_false, Bool.false_or]⟩))
  rcases Bool.eq_false_or_eq_true (s.toList == [116, 104, 101, 110]) with h3 | h3
  · exact Or.inr (Or.inr (Or.inr (Or.inl ⟨h0, h1, h2, h3, by unfold Hid; simp only [isReserved, keywords, List.contains_cons, List.contains_nil, h0, h1, h2, h3, Bool.or_true, Bool.true_or, Bool.or_false, Bool.false_or]⟩)))
  rcases Bool.eq_false_or_eq_true (s.toList == [101, 108, 115, 101]) with h4 | h4
  · exact Or.inr (Or.inr (Or.inr (Or.inr (Or.inl ⟨h0, h1, h2, h3, h4, by unfold Hid; simp only [isReserved, keywords, List.contains_cons, List.contains_nil, h0, h1, h2, h3, h4, Bool.or_true, Bool.true_or, Bool.or_false, Bool.false_or]⟩))))
  rcases Bool.eq_false_or_eq_true (s.toList == [102, 111, 114]) with h5 | h5
  · exact Or.inr (Or.inr (Or.inr (Or.inr (Or.inr (Or.inl ⟨h0, h1, h2, h3, h4, h5, by unfold Hid; simp only [isReserved, keywords, List.contains_cons, List.contains_nil, h0, h1, h2, h3, h4, h5, Bool.or_true, Bool.true_or, Bool.or_false, Bool.false_or]⟩)))))
  rcases Bool.eq_false_or_eq_true (s.toList == [100, 111]) with h6 | h6
  · exact Or.inr (Or.inr (Or.inr (Or.inr (Or.inr (Or.inr (Or.inl ⟨h0, h1, h2, h3, h4, h5, h6, by unfold Hid; simp only [isReserved, keywords, List.contains_cons, List.contains_nil, h0, h1, h2, h3, h4, h5, h6, Bool.or_true, Bool.true_or, Bool.or_false, Bool.false_or]⟩))))))
  exact Or.inr (Or.inr (Or.inr (Or.inr (Or.inr (Or.inr (Or.inr ⟨h0, h1, h2, h3, h4, h5, h6, by unfold Hid; simp only [isReserved, keywords, List.contains_cons, List.contains_nil, h0, h1, h2, h3, h4, h5, h6, Bool.or_true, Bool.true_or, Bool.or_false, Bool.false_or]⟩))))))

/-- Is a string in a list? -/
def hasB (xs : List ByteArray) (s : ByteArray) : Bool := xs.any fun x => x.toList == s.toList
def reservedList : List ByteArray := [⟨#[108, 101, 116]⟩, ⟨#[105, 110]⟩, ⟨#[105, 102]⟩, ⟨#[116, 104, 101, 110]⟩, ⟨#[101, 108, 115, 101]⟩, ⟨#[102, 111, 114]⟩, ⟨#[100, 111]⟩, ⟨#[108, 101, 110]⟩, ⟨#[115, 117, 109]⟩, ⟨#[116, 97, 107, 101]⟩, ⟨#[115, 107, 105, 112]⟩, ⟨#[114, 97, 110, 103, 101]⟩, ⟨#[110, 116, 104]⟩, ⟨#[119, 104, 101, 114, 101]⟩, ⟨#[107, 101, 101, 112]⟩, ⟨#[97, 100, 100]⟩, ⟨#[103, 114, 111, 117, 112]⟩, ⟨#[106, 111, 105, 110]⟩, ⟨#[99, 111, 108, 117, 109, 110]⟩, ⟨#[114, 111, 119, 115]⟩, ⟨#[99, 108, 111, 99, 107]⟩, ⟨#[99, 104, 97, 110, 99, 101]⟩, ⟨#[102, 105, 108, 101]⟩, ⟨#[116, 97, 98, 108, 101]⟩]
def reservedWords : List (List UInt8) := [[108, 101, 116], [105, 110], [105, 102], [116, 104, 101, 110], [101, 108, 115, 101], [102, 111, 114], [100, 111], [108, 101, 110], [115, 117, 109], [116, 97, 107, 101], [115, 107, 105, 112], [114, 97, 110, 103, 101], [110, 116, 104], [119, 104, 101, 114, 101], [107, 101, 101, 112], [97, 100, 100], [103, 114, 111, 117, 112], [106, 111, 105, 110], [99, 111, 108, 117, 109, 110], [114, 111, 119, 115], [99, 108, 111, 99, 107], [99, 104, 97, 110, 99, 101], [102, 105, 108, 101], [116, 97, 98, 108, 101]]
theorem words_to : ∀ x ∈ reservedWords, x ∈ keywords ++ argTable.map (·.1) := by decide
theorem words_back : ∀ x ∈ keywords ++ argTable.map (·.1), x ∈ reservedWords := by decide
theorem reserved_map : reservedList.map (·.toList) = reservedWords := by
  simp only [reservedList, reservedWords, List.map_cons, List.map_nil, ByteArray.toList_eq]
theorem hasB_iff (xs : List ByteArray) (s : ByteArray) : hasB xs s = true ↔ s.toList ∈ xs.map (·.toList) := by
  simp only [hasB, List.any_eq_true, beq_iff_eq, List.mem_map]
theorem hasB_reserved (s : ByteArray) : hasB reservedList s = isReserved s := by
  have h := lookup_nonneg s.toList argTable (by decide)
  rw [Bool.eq_iff_iff, hasB_iff, reserved_map]
  simp only [isReserved, argCount, Bool.or_eq_true, decide_eq_true_eq, h, List.contains_iff_mem]
  rw [← List.mem_append]
  exact ⟨words_to _, words_back _⟩
end Go.Proofs.Ytjjmbldgemnhbaa
