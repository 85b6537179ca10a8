/-
  Plain words on lists of strings: the first place, distinct elements, what sizes cost.
-/
import Derived.Test.YtjjmbldgemnhbaaYBase
import Derived.Test.YtjjmbldgemnhbaaYWords
namespace Go.Proofs.Ytjjmbldgemnhbaa
open Go.RowKit
set_option linter.unusedVariables false
set_option linter.unusedSimpArgs false

/-- The first place of a string, or -1. -/
def indexB (xs : List ByteArray) (s : ByteArray) : Int := match xs.findIdx? (fun x => x.toList == s.toList) with | some i => i | none => -1
theorem index_hit {xs : List ByteArray} {s : ByteArray} {k : Nat} (hk : k < xs.length) (hx : (xs[k].toList == s.toList) = true) (h : ∀ j, (hj : j < xs.length) → j < k → (xs[j].toList == s.toList) = false) : indexB xs s = k := by
  have e : xs.findIdx? (fun x => x.toList == s.toList) = some k := by
    rw [List.findIdx?_eq_some_iff_getElem]
    exact ⟨hk, hx, fun j hj => by simpa using h j (by omega) hj⟩
  simp [indexB, e]
theorem index_none {xs : List ByteArray} {s : ByteArray} (h : ∀ j, (hj : j < xs.length) → (xs[j].toList == s.toList) = false) : indexB xs s = -1 := by
  have e : xs.findIdx? (fun x => x.toList == s.toList) = none := by
    rw [List.findIdx?_eq_none_iff]
    intro x hx
    obtain ⟨j, hj, rfl⟩ := List.getElem_of_mem hx
    exact h j hj
  simp [indexB, e]
theorem index_range (xs : List ByteArray) (s : ByteArray) : -1 ≤ indexB xs s ∧ indexB xs s < xs.length := by
  unfold indexB
  cases e : xs.findIdx? (fun x => x.toList == s.toList) with
  | none => simp; omega
  | some i => obtain ⟨h, _⟩ := List.findIdx?_eq_some_iff_getElem.1 e; simp; omega
theorem has_hit {xs : List ByteArray} {s : ByteArray} {k : Nat} (hk : k < xs.length) (hx : (xs[k].toList == s.toList) = true) : hasB xs s = true := by
  rw [hasB, List.any_eq_true]
  exact ⟨xs[k], List.getElem_mem hk, hx⟩
theorem has_none {xs : List ByteArray} {s : ByteArray} (h : ∀ j, (hj : j < xs.length) → (xs[j].toList == s.toList) = false) : hasB xs s = false := by
  rw [hasB, List.any_eq_false]
  intro x hx
  obtain ⟨j, hj, rfl⟩ := List.getElem_of_mem hx
  simp [h j hj]
theorem has_index (xs : List ByteArray) (s : ByteArray) : hasB xs s = decide (0 ≤ indexB xs s) := by
  unfold indexB
  cases e : xs.findIdx? (fun x => x.toList == s.toList) with
  | none =>
    rw [List.findIdx?_eq_none_iff] at e
    simp [hasB, List.any_eq_false]
    simpa using e
  | some i =>
    obtain ⟨h, hx, _⟩ := List.findIdx?_eq_some_iff_getElem.1 e
    rw [has_hit h hx]
    simp

/-- All elements differ. -/
def distinctB (xs : List ByteArray) : Bool := decide (∀ i, (h : i < xs.length) → hasB (xs.take i) xs[i] = false)
theorem index_self {xs : List ByteArray} {i : Nat} (h : i < xs.length) : (indexB xs xs[i] = i) ↔ hasB (xs.take i) xs[i] = false := by
  constructor
  · intro e
    have : ∀ j, (hj : j < xs.length) → j < i → (xs[j].toList == xs[i].toList) = false := by
      unfold indexB at e
      cases ef : xs.findIdx? (fun x => x.toList == xs[i].toList) with
      | none => rw [ef] at e; simp at e
      | some k =>
        rw [ef] at e
        have e' : k = i := by simp at e; omega
        subst e'
        obtain ⟨_, _, h2⟩ := List.findIdx?_eq_some_iff_getElem.1 ef
        intro j hj hji
        simpa using h2 j hji
    refine has_none fun j hj => ?_
    rw [List.length_take] at hj
    rw [List.getElem_take]
    exact this j (by omega) (by omega)
  · intro e
    refine index_hit h (by simp) fun j hj hji => ?_
    cases hq : (xs[j].toList == xs[i].toList) with
    | false => rfl
    | true =>
      have := has_hit (xs := xs.take i) (s := xs[i]) (k := j) (by rw [List.length_take]; omega) (by rw [List.getElem_take]; exact hq)
      rw [this] at e
      cases e

/-- What is left of a measure. -/
def szR (left : Int) (cost : Nat) : Int := if left < cost then -1 else left - cost
def costS (xs : List ByteArray) : Nat := xs.length + (xs.map ByteArray.size).sum
theorem sum_take_succ {xs : List ByteArray} {k : Nat} (hk : k < xs.length) : ((xs.take (k + 1)).map ByteArray.size).sum = ((xs.take k).map ByteArray.size).sum + xs[k].size := by
  rw [List.take_succ_eq_append_getElem hk, List.map_append, List.sum_append]
  rfl
theorem sum_take_le (xs : List ByteArray) (k : Nat) : ((xs.take k).map ByteArray.size).sum ≤ (xs.map ByteArray.size).sum := by
  conv => rhs; rw [← List.take_append_drop k xs, List.map_append, List.sum_append]
  exact Nat.le_add_right _ _
theorem szR_small {left : Int} {cost : Nat} (h : (cost : Int) ≤ left) : szR left cost = left - cost := by unfold szR; rw [if_neg (by omega)]
theorem szR_big {left : Int} {cost : Nat} (h : left < (cost : Int)) : szR left cost = -1 := by unfold szR; rw [if_pos h]
/-- Two lists of strings are equal. -/
def eqS (xs ys : List ByteArray) : Bool := decide (xs = ys)
theorem eqS_len {xs ys : List ByteArray} (h : xs.length ≠ ys.length) : eqS xs ys = false := by
  simp only [eqS, decide_eq_false_iff_not]
  rintro rfl
  exact h rfl
theorem eqS_at {xs ys : List ByteArray} {k : Nat} (h1 : k < xs.length) (h2 : k < ys.length) (h : (xs[k].toList == ys[k].toList) = false) : eqS xs ys = false := by
  simp only [eqS, decide_eq_false_iff_not]
  rintro rfl
  simp at h
theorem eqS_all {xs ys : List ByteArray} (hl : xs.length = ys.length) (h : ∀ j, (hj : j < xs.length) → (hj' : j < ys.length) → (xs[j].toList == ys[j].toList) = true) : eqS xs ys = true := by
  simp only [eqS, decide_eq_true_eq]
  refine List.ext_getElem hl fun j h1 h2 => ?_
  have := h j h1 h2
  rw [beq_toList] at this
  simpa using this
/-- A row that is being filled. -/
def fillS (xs : List Value) (z : Value) (k : Nat) : List Value := xs.take k ++ List.replicate (xs.length - k) z
theorem fillS_zero (xs : List Value) (z : Value) : fillS xs z 0 = List.replicate xs.length z := by simp [fillS]
theorem fillS_all (xs : List Value) (z : Value) : fillS xs z xs.length = xs := by simp [fillS]
theorem fillS_at {xs : List Value} {z : Value} {k : Nat} (hk : k < xs.length) : (fillS xs z k)[k]? = some z := by
  unfold fillS
  rw [List.getElem?_append_right (by rw [List.length_take]; omega), List.length_take, Nat.min_eq_left (by omega), Nat.sub_self, List.getElem?_replicate]
  rw [if_pos (by omega)]
theorem fillS_set {xs : List Value} {z : Value} {k : Nat} (hk : k < xs.length) : (fillS xs z k).set k xs[k] = fillS xs z (k + 1) := by
  unfold fillS
  rw [List.take_succ_eq_append_getElem hk, List.set_append_right _ _ (by rw [List.length_take]; omega), List.length_take, Nat.min_eq_left (by omega), Nat.sub_self, List.append_assoc]
  congr 1
  have : xs.length - k = (xs.length - (k + 1)) + 1 := by omega
  rw [this, List.replicate_succ]
  rfl
end Go.Proofs.Ytjjmbldgemnhbaa
