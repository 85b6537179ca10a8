/-
  Insertion into a list of strings in ascending order (plain words).
-/
import Derived.Test.YthjabeoafdohjaaSO1
namespace Go.Proofs.Ythjabeoafdohjaa
open Go.RowKit
set_option linter.unusedVariables false
set_option linter.unusedSimpArgs false

theorem sort_dup {xs : List ByteArray} {x : ByteArray} (h : x ∈ sortB xs) : sortB (xs ++ [x]) = sortB xs :=
  rising_unique (rising_sortB _) (rising_sortB _) fun s => by
    rw [mem_sortB, mem_sortB, List.mem_append, List.mem_singleton]
    constructor
    · rintro (h1 | rfl)
      · exact h1
      · exact (mem_sortB _ _).1 h
    · exact .inl
theorem rising_ins {l : List ByteArray} {x : ByteArray} {p : Nat} (hr : Rising l) (hp : p ≤ l.length) (h2 : ∀ j (hj : j < l.length), j < p → keyB l[j] < keyB x) (h3 : ∀ hj : p < l.length, keyB x < keyB l[p]) :
    Rising (l.take p ++ x :: l.drop p) := by
  unfold Rising
  rw [List.pairwise_append]
  refine ⟨List.Pairwise.sublist (List.take_sublist _ _) hr, List.pairwise_cons.2 ⟨fun y hy => ?_, List.Pairwise.sublist (List.drop_sublist _ _) hr⟩, fun a ha b hb => ?_⟩
  · obtain ⟨i, hi, rfl⟩ := List.getElem_of_mem hy
    rw [List.length_drop] at hi
    rw [List.getElem_drop]
    have h0 := h3 (by omega)
    rcases Nat.eq_zero_or_pos i with h | h
    · subst h; exact h0
    · exact List.lt_trans h0 (List.pairwise_iff_getElem.1 hr p (p + i) (by omega) (by omega) (by omega))
  · obtain ⟨i, hi, rfl⟩ := List.getElem_of_mem ha
    rw [List.length_take] at hi
    rw [List.getElem_take]
    have h1 := h2 i (by omega) (by omega)
    rcases List.mem_cons.1 hb with rfl | hb
    · exact h1
    · obtain ⟨j, hj, rfl⟩ := List.getElem_of_mem hb
      rw [List.length_drop] at hj
      rw [List.getElem_drop]
      exact List.pairwise_iff_getElem.1 hr i (p + j) (by omega) (by omega) (by omega)
theorem sort_ins {xs : List ByteArray} {x : ByteArray} {p : Nat} (hp : p ≤ (sortB xs).length) (h2 : ∀ j (hj : j < (sortB xs).length), j < p → keyB (sortB xs)[j] < keyB x) (h3 : ∀ hj : p < (sortB xs).length, keyB x < keyB (sortB xs)[p]) :
    sortB (xs ++ [x]) = (sortB xs).take p ++ x :: (sortB xs).drop p :=
  rising_unique (rising_sortB _) (rising_ins (rising_sortB _) hp h2 h3) fun s => by
    rw [mem_sortB, List.mem_append, List.mem_singleton, List.mem_append, List.mem_cons]
    have e : s ∈ sortB xs ↔ s ∈ (sortB xs).take p ∨ s ∈ (sortB xs).drop p := by
      conv => lhs; rw [← List.take_append_drop p (sortB xs)]
      rw [List.mem_append]
    rw [mem_sortB] at e
    rw [e]
    constructor
    · rintro ((h | h) | h)
      · exact .inl h
      · exact .inr (.inr h)
      · exact .inr (.inl h)
    · rintro (h | h | h)
      · exact .inl (.inl h)
      · exact .inr h
      · exact .inl (.inr h)
/-- What the two tests tell. -/
theorem less_keys {x y : ByteArray} : Op.bytesLess x.toList y.toList = true ↔ keyB x < keyB y := by rw [less_lt, toList_key, toList_key, decide_eq_true_eq]
theorem keys_total {x y : ByteArray} (h : Op.bytesLess x.toList y.toList = false) (hne : (x.toList == y.toList) = false) : keyB y < keyB x := by
  have h1 : ¬ keyB x < keyB y := fun e => by rw [less_keys.2 e] at h; cases h
  have h2 : keyB x ≠ keyB y := fun e => by
    have := key_inj e
    subst this
    simp at hne
  exact Classical.byContradiction fun h3 => h2 (List.le_antisymm (List.not_lt.1 h3) (List.not_lt.1 h1))
end Go.Proofs.Ythjabeoafdohjaa
