/-
  Values: copies: toRow, toRowS, toValue, toValueS.
-/
import Derived.Test.YtjjmbldgemnhbaaDoorD4
namespace Go.Proofs.YtjjmbldgemnhbaaDoor
open Go.ChangeShapes Go.WideShapes Go.ChangeAt Go.RowKit
set_option linter.unusedVariables false
set_option linter.unusedSimpArgs false

/-- A variable of the call's own, cell by cell. -/
def Box (w : World) (g : Nat) (xs : List Value) : Prop := ∃ e, w.ownsRow 0 e xs.length (.slice (some ⟨g, 0, none⟩) 1 1) 1 xs
theorem box_alloc (w : World) (cs : Array Value) (t : TypeId) : Box (w.alloc (.cells cs t)) w.heap.size cs.toList :=
  ⟨t, by simp, .inr ⟨w.heap.size, 1, cs, rfl, Nat.zero_le _, heap_alloc_new w _, Nat.le_refl _, by simp only [maxLen]; omega, by simp, by simp [List.take_of_length_le]⟩⟩
theorem Box.later {w w' : World} {g : Nat} {xs : List Value} (h : Box w g xs) (hb : Later w w') : Box w' g xs := by
  obtain ⟨e, h⟩ := h
  exact ⟨e, own_later h hb⟩
theorem Box.chg {w w' : World} {g : Nat} {xs : List Value} {S : Nat → Prop} (h : Box w g xs) (c : Chg S w w') (hn : ¬ S g) : Box w' g xs := by
  obtain ⟨e, h⟩ := h
  refine ⟨e, row_block h fun g' hg' => ?_⟩
  have hl := (h.lt g' hg').2
  simp only [Value.ownBlock, Option.some.injEq] at hg'
  subst hg'
  exact c.block _ hl hn
theorem Box.cell {w : World} {g : Nat} {xs : List Value} (h : Box w g xs) {j : Nat} {u : Value} (hu : xs[j]? = some u) : w.cell? ⟨g, j, none⟩ = some u := by
  obtain ⟨e, h⟩ := h
  rw [h.cellAt j (by have := (List.getElem?_eq_some_iff.1 hu).1; omega), hu]
theorem Box.free {w : World} {g : Nat} {xs : List Value} (h : Box w g xs) (j : Nat) : w.frozen? ⟨g, j, none⟩ = false := by
  obtain ⟨e, h⟩ := h
  exact h.frozenAt j
theorem Box.set {w : World} {g : Nat} {xs : List Value} (h : Box w g xs) (j : Nat) (u : Value) : Box (w.setCell ⟨g, j, none⟩ u) g (xs.set j u) := by
  obtain ⟨e, h⟩ := h
  refine ⟨e, ?_⟩
  rw [List.length_set]
  exact (h.stored j u).1
theorem Box.other {w : World} {g : Nat} {xs : List Value} (h : Box w g xs) {g' : Nat} (j : Nat) (u : Value) (hn : g ≠ g') : Box (w.setCell ⟨g', j, none⟩ u) g xs :=
  h.chg (S := fun b => b = g') ((Chg.rfl' _ w).set rfl) hn
theorem Box.lt {w : World} {g : Nat} {xs : List Value} (h : Box w g xs) : g < w.heap.size := by
  obtain ⟨e, h⟩ := h
  exact (h.lt g rfl).2

theorem owns_nil (w : World) (S : Nat → Prop) : Owns w S [] [] := ⟨rfl, noB, fun _ _ h => False.elim h, fun _ _ _ _ h => False.elim h, fun i d u h => by simp at h⟩
theorem Owns.cons {w : World} {S T U : Nat → Prop} {d : Dt} {c : Value} {ds : List Dt} {cs : List Value} (h : Own w T d c) (t : Owns w S ds cs) (hT : ∀ b, T b → U b) (hS : ∀ b, S b → U b) (hd : ∀ b, T b → S b → False) : Owns w U (d :: ds) (c :: cs) := by
  obtain ⟨hl, F, h1, h2, h3⟩ := t
  refine ⟨by simp [hl], fun i => match i with | 0 => T | i + 1 => F i, fun i b hb => ?_, fun i j hij b hi hj => ?_, fun i d' u hd' hu => ?_⟩
  · match i with
    | 0 => exact hT b hb
    | i + 1 => exact hS b (h1 i b hb)
  · match i, j with
    | 0, 0 => exact hij rfl
    | 0, j + 1 => exact hd b hi (h1 j b hj)
    | i + 1, 0 => exact hd b hj (h1 i b hi)
    | i + 1, j + 1 => exact h2 i j (by omega) b hi hj
  · match i with
    | 0 =>
      simp at hd' hu
      subst hd' hu
      exact h
    | i + 1 => exact h3 i d' u (by simpa using hd') (by simpa using hu)
theorem Owns.leaf {w : World} {S U : Nat → Prop} {d : Dt} {c : Value} {ds : List Dt} {cs : List Value} (h : Own w (fun _ => False) d c) (t : Owns w S ds cs) (hS : ∀ b, S b → U b) : Owns w U (d :: ds) (c :: cs) :=
  Owns.cons h t (fun _ h => False.elim h) hS (fun _ h _ => h)

theorem Owns.leaf' {w : World} {S : Nat → Prop} {d : Dt} {c : Value} {ds : List Dt} {cs : List Value} (h : Own w (fun _ => False) d c) (t : Owns w S ds cs) : Owns w S (d :: ds) (c :: cs) :=
  Owns.leaf h t fun _ h => h
theorem box3 {W w1 : World} {a b c : Array Value} {t u x : TypeId} (hb : Later (((W.alloc (.cells a t)).alloc (.cells b u)).alloc (.cells c x)) w1) :
    Box w1 W.heap.size a.toList ∧ Box w1 (W.heap.size + 1) b.toList ∧ Box w1 (W.heap.size + 1 + 1) c.toList ∧ W.heap.size + 3 ≤ w1.heap.size ∧ Later W w1 := by
  have h1 := (((box_alloc W a t).later ((Later.rfl' _).alloc (.cells b u))).later ((Later.rfl' _).alloc (.cells c x))).later hb
  have h2 := ((box_alloc (W.alloc (.cells a t)) b u).later ((Later.rfl' _).alloc (.cells c x))).later hb
  have h3 := (box_alloc ((W.alloc (.cells a t)).alloc (.cells b u)) c x).later hb
  have hs := hb.size
  simp only [World.size_alloc] at h2 h3 hs
  exact ⟨h1, h2, h3, by omega, ((((Later.rfl' _).alloc _).alloc _).alloc _).trans hb⟩
theorem Later.set {a b : World} (h : Later a b) {g : Nat} (hg : a.heap.size ≤ g) (o : Nat) (u : Value) : Later a (b.setCell ⟨g, o, none⟩ u) := Below.setCell h hg _

/-- A row of strings of the call's own. -/
theorem own_strs {w : World} {base : Nat} {e : TypeId} {v : Value} {xs : List ByteArray} {S : Nat → Prop} (h : w.ownsRow base e 1 v xs.length (xs.map .string)) (hf : ∀ x ∈ xs, x.size ≤ 9223372036854775807) (hS : ∀ g, v.ownBlock = some g → S g) : Own w S (.sl 1 xs.length (xs.flatMap encS)) v := by
  rw [flat_strs]
  refine Own.of_row noB h (by simp) (fun g hg => ⟨hS g hg, fun _ h => h⟩) (fun _ _ h => False.elim h) (fun _ _ _ _ h => False.elim h) (fun i d u hd hu => ?_)
  rw [List.getElem?_map] at hd hu
  obtain ⟨x, hx, rfl⟩ := Option.map_eq_some_iff.1 hd
  rw [hx] at hu
  simp at hu
  subst hu
  exact .str _ _ (hf x (List.mem_of_getElem? hx))
end Go.Proofs.YtjjmbldgemnhbaaDoor
