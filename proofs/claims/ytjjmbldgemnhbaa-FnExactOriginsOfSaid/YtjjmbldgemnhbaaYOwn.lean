/-
  Rows of the call's own: kept by what comes later; several cells stored one behind the other; a row that is filled element by element.
-/
import Derived.Test.YtjjmbldgemnhbaaYBase
namespace Go.Proofs.Ytjjmbldgemnhbaa
open Go.RowKit
set_option linter.unusedVariables false
set_option linter.unusedSimpArgs false

theorem Later.grown {w w' : World} (h : Later w w') (row : Option Nat) : w.grownBy w' row := ⟨Below.os h, Below.tape h, Below.output h, Below.size h, fun k hk _ => Below.block h k hk⟩
theorem own_later {w w' : World} {base e size n : Nat} {v : Value} {xs : List Value} (h : w.ownsRow base e size v n xs) (hb : Later w w') : w'.ownsRow base e size v n xs :=
  h.kept (hb.grown none) (by cases hv : v.ownBlock <;> simp)

/-- Several cells stored one behind the other. -/
def setFrom (w : World) (g o : Nat) : List Value → World
  | [] => w
  | v :: vs => setFrom (w.setCell ⟨g, o, none⟩ v) g (o + 1) vs
def writeAt (xs : List Value) (o : Nat) : List Value → List Value
  | [] => xs
  | v :: vs => writeAt (xs.set o v) (o + 1) vs
theorem length_writeAt (vs : List Value) : ∀ (xs : List Value) (o : Nat), (writeAt xs o vs).length = xs.length := by
  induction vs with
  | nil => intro xs o; rfl
  | cons v vs ih => intro xs o; rw [writeAt, ih, List.length_set]
theorem writeAt_low (vs : List Value) : ∀ (xs : List Value) (o i : Nat), i < o → (writeAt xs o vs)[i]? = xs[i]? := by
  induction vs with
  | nil => intro xs o i _; rfl
  | cons v vs ih => intro xs o i h; rw [writeAt, ih _ _ _ (by omega), List.getElem?_set_ne (by omega)]
theorem writeAt_at (vs : List Value) : ∀ (xs : List Value) (o j : Nat), o + vs.length ≤ xs.length → j < vs.length → (writeAt xs o vs)[o + j]? = vs[j]? := by
  induction vs with
  | nil => intro xs o j _ h; simp at h
  | cons v vs ih =>
    intro xs o j h hj
    simp only [List.length_cons] at h hj
    rw [writeAt]
    match j with
    | 0 =>
      rw [writeAt_low _ _ _ _ (by omega)]
      simp only [Nat.add_zero, List.getElem?_cons_zero]
      rw [List.getElem?_set_self (by omega)]
    | j + 1 =>
      have e : o + (j + 1) = (o + 1) + j := by omega
      rw [e, ih _ _ _ (by rw [List.length_set]; omega) (by omega)]
      rfl
theorem own_setFrom {base e size n cap g : Nat} (vs : List Value) : ∀ (w : World) (xs : List Value) (o : Nat), w.ownsRow base e size (.slice (some ⟨g, 0, none⟩) n cap) n xs → (setFrom w g o vs).ownsRow base e size (.slice (some ⟨g, 0, none⟩) n cap) n (writeAt xs o vs) := by
  induction vs with
  | nil => intro w xs o h; exact h
  | cons v vs ih => intro w xs o h; exact ih _ _ _ (h.stored o v).1
theorem later_setFrom {g : Nat} {W : World} (hg : W.heap.size ≤ g) (vs : List Value) : ∀ (w : World) (o : Nat), Later W w → Later W (setFrom w g o vs) := by
  induction vs with
  | nil => intro w o h; exact h
  | cons v vs ih => intro w o h; exact ih _ _ (Below.setCell h hg _)
theorem block_setFrom {g b : Nat} (hb : b ≠ g) (vs : List Value) : ∀ (w : World) (o : Nat), (setFrom w g o vs).heap[b]? = w.heap[b]? := by
  induction vs with
  | nil => intro w o; rfl
  | cons v vs ih => intro w o; rw [setFrom, ih, Below.heap_setCell _ _ _ _ hb]
theorem size_setFrom {g : Nat} (vs : List Value) : ∀ (w : World) (o : Nat), (setFrom w g o vs).heap.size = w.heap.size := by
  induction vs with
  | nil => intro w o; rfl
  | cons v vs ih => intro w o; rw [setFrom, ih, World.size_setCell]

/-- The first k elements of a row are filled. -/
def Filled (size : Nat) (xs : List Value) (G : Nat → List Value) (k : Nat) : Prop := ∀ i, i < k → (G i).length = size ∧ ∀ j u, (G i)[j]? = some u → xs[i * size + j]? = some u
theorem Filled.step {size n : Nat} {xs : List Value} {G : Nat → List Value} {k : Nat} {vs : List Value} (h : Filled size xs G k) (hl : xs.length = n * size) (hk : k < n) (hv : vs.length = size) :
    Filled size (writeAt xs (k * size) vs) (fun i => if i = k then vs else G i) (k + 1) := by
  intro i hi
  by_cases e : i = k
  · subst e
    simp only [if_pos]
    refine ⟨hv, fun j u hu => ?_⟩
    have hj : j < vs.length := (List.getElem?_eq_some_iff.1 hu).1
    have : (i + 1) * size ≤ n * size := Nat.mul_le_mul_right _ hk
    rw [Nat.succ_mul] at this
    rw [writeAt_at _ _ _ _ (by omega) hj]
    exact hu
  · simp only [if_neg e]
    obtain ⟨h1, h2⟩ := h i (by omega)
    refine ⟨h1, fun j u hu => ?_⟩
    have hj : j < (G i).length := (List.getElem?_eq_some_iff.1 hu).1
    have : (i + 1) * size ≤ k * size := Nat.mul_le_mul_right _ (by omega)
    rw [Nat.succ_mul] at this
    rw [writeAt_low _ _ _ _ (by omega)]
    exact h2 j u hu
/-- A cell of a row of the call's own. -/
theorem own_cell {w : World} {base e size n cap g : Nat} {xs : List Value} (h : w.ownsRow base e size (.slice (some ⟨g, 0, none⟩) n cap) n xs) {j : Nat} (hj : j < n * size) : ∃ u, w.cell? ⟨g, j, none⟩ = some u ∧ w.frozen? ⟨g, j, none⟩ = false := by
  refine ⟨xs[j]'(by rw [h.1]; exact hj), ?_, h.frozenAt j⟩
  rw [h.cellAt j hj, List.getElem?_eq_getElem]
theorem madeOwn {w1 w : World} {e size n : Nat} {z : Value} (h : w1.ownsRow w.heap.size e size (.slice (some ⟨w.heap.size, 0, none⟩) n n) n (madeCells z.cells (n * size)).toList) (hg : w.grownBy w1 none) :
    ∃ xs, w1.ownsRow w.heap.size e size (.slice (some ⟨w.heap.size, 0, none⟩) n n) n xs ∧ Later w w1 ∧ w.heap.size < w1.heap.size := by
  refine ⟨_, h, ⟨hg.os, hg.tape, hg.output, hg.size, fun k hk => hg.block k hk (by simp)⟩, ?_⟩
  have := h.lt w.heap.size rfl
  exact this.2
theorem kept_cell {X w1 : World} (hb : Later X w1) {b o : Nat} {v : Value} (h : X.cell? ⟨b, o, none⟩ = some v) : w1.cell? ⟨b, o, none⟩ = some v :=
  (Below.cell hb (p := ⟨b, o, none⟩) (World.block_lt_of_cell? X _ h)).trans h
theorem kept_free {X w1 : World} (hb : Later X w1) {b o : Nat} (hl : b < X.heap.size) (h : X.frozen? ⟨b, o, none⟩ = false) : w1.frozen? ⟨b, o, none⟩ = false :=
  (Below.frozen hb (p := ⟨b, o, none⟩) hl).trans h
end Go.Proofs.Ytjjmbldgemnhbaa
