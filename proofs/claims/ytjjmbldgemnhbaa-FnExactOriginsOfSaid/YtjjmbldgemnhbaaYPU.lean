/-
  Elements pushed one by one onto a slice of the call's own.
-/
import Derived.Test.YtjjmbldgemnhbaaYD5
import Derived.Maps.AppendAt
namespace Go.Proofs.Ytjjmbldgemnhbaa
open Go.ChangeShapes Go.WideShapes Go.ChangeAt Go.RowKit
set_option linter.unusedVariables false
set_option linter.unusedSimpArgs false

def Pushed {α : Type} (lo : Nat) (w : World) (e s : Nat) (enc : α → List Dt) (l : List α) (v : Value) : Prop :=
  ∃ (xs : List Value) (T : Nat → Nat → Prop), w.ownsRow lo e s v l.length xs ∧ (∀ p b, T p b → lo ≤ b ∧ b < w.heap.size ∧ v.ownBlock ≠ some b) ∧ (∀ p p', p ≠ p' → ∀ b, T p b → T p' b → False) ∧ ∀ (p : Nat) d u, (l.flatMap enc)[p]? = some d → xs[p]? = some u → Own w (T p) d u
theorem Pushed.own {α : Type} {lo : Nat} {w : World} {e s : Nat} {enc : α → List Dt} {l : List α} {v : Value} (hs : ∀ a, (enc a).length = s) (h : Pushed lo w e s enc l v) : Own w (fun b => lo ≤ b ∧ b < w.heap.size) (.sl s l.length (l.flatMap enc)) v := by
  obtain ⟨xs, T, h1, h2, h3, h4⟩ := h
  exact Own.of_row T h1 (flat_len hs l) (fun g hg => ⟨h1.lt g hg, fun i hi => (h2 i g hi).2.2 hg⟩) (fun i b hb => ⟨(h2 i b hb).1, (h2 i b hb).2.1⟩) h3 h4
theorem Pushed.row0 {α : Type} {lo : Nat} {w : World} {e s : Nat} (enc : α → List Dt) {v : Value} (h : w.ownsRow lo e s v 0 []) : Pushed lo w e s enc [] v :=
  ⟨[], noB, h, fun _ _ h => False.elim h, fun _ _ _ _ h => False.elim h, fun p d u hd => by simp at hd⟩
theorem Pushed.later {α : Type} {lo : Nat} {w w' : World} {e s : Nat} {enc : α → List Dt} {l : List α} {v : Value} (h : Pushed lo w e s enc l v) (hb : Later w w') : Pushed lo w' e s enc l v := by
  obtain ⟨xs, T, h1, h2, h3, h4⟩ := h
  exact ⟨xs, T, row_block h1 fun g hg => Below.block hb g (h1.lt g hg).2, fun p b hT => ⟨(h2 p b hT).1, Nat.lt_of_lt_of_le (h2 p b hT).2.1 hb.size, (h2 p b hT).2.2⟩, h3, fun p d u hd hu => (h4 p d u hd hu).later hb⟩
theorem Pushed.chg {α : Type} {lo : Nat} {w w' : World} {e s : Nat} {enc : α → List Dt} {l : List α} {v : Value} {S : Nat → Prop} (h : Pushed lo w e s enc l v) (c : Chg S w w') (hS : ∀ b, lo ≤ b → ¬ S b) : Pushed lo w' e s enc l v := by
  obtain ⟨xs, T, h1, h2, h3, h4⟩ := h
  exact ⟨xs, T, row_block h1 fun g hg => c.block g (h1.lt g hg).2 (hS g (h1.lt g hg).1), fun p b hT => ⟨(h2 p b hT).1, Nat.lt_of_lt_of_le (h2 p b hT).2.1 c.size, (h2 p b hT).2.2⟩, h3, fun p d u hd hu => (h4 p d u hd hu).chg c fun b h5 h6 => hS b (h2 p b h5).1 h6⟩
/-- One more element: what the append asks for, and what it leaves. -/
theorem Pushed.push {α : Type} {lo : Nat} {w w1 : World} {e s : Nat} {enc : α → List Dt} (hs : ∀ a, (enc a).length = s) {l : List α} {v : Value} (h : Pushed lo w e s enc l v) (hb : Later w w1) (hlo : lo ≤ w.heap.size) {x : α} {us : List Value}
    (ho : Owns w1 (fun b => w.heap.size ≤ b ∧ b < w1.heap.size) (enc x) us) :
    ∃ xs, w1.ownsRow lo e s v l.length xs ∧ us.length = 1 * s ∧ ∀ v' w2, w2.ownsRow lo e s v' (l.length + 1) (xs ++ us) → w1.grownBy w2 v.ownBlock → (v'.ownBlock = v.ownBlock ∨ v'.ownBlock = some w1.heap.size) → Pushed lo w2 e s enc (l ++ [x]) v' := by
  obtain ⟨xs, T, h1, h2, h3, h4⟩ := h
  obtain ⟨hl, T2, k1, k2, k3⟩ := ho
  have hsz := hb.size
  have hus : us.length = 1 * s := by rw [hl, hs, Nat.one_mul]
  have hxl : xs.length = l.length * s := h1.1
  have hfl : (l.flatMap enc).length = l.length * s := flat_len hs l
  refine ⟨xs, row_block h1 fun g hg => Below.block hb g (h1.lt g hg).2, hus, fun v' w2 hr hg hat => ?_⟩
  refine ⟨xs ++ us, fun p b => (p < l.length * s ∧ T p b) ∨ (l.length * s ≤ p ∧ T2 (p - l.length * s) b), by rw [List.length_append]; exact hr, ?_, ?_, ?_⟩
  · rintro p b (⟨hp, hT⟩ | ⟨hp, hT⟩)
    · obtain ⟨a1, a2, a3⟩ := h2 p b hT
      refine ⟨a1, by have := hg.size; omega, fun e => ?_⟩
      rcases hat with h | h
      · exact a3 (h ▸ e)
      · rw [h] at e
        simp only [Option.some.injEq] at e
        omega
    · obtain ⟨a1, a2⟩ := k1 _ b hT
      refine ⟨by omega, by have := hg.size; omega, fun e => ?_⟩
      rcases hat with h | h
      · rw [h] at e
        have := (h1.lt b e).2
        omega
      · rw [h] at e
        simp only [Option.some.injEq] at e
        omega
  · rintro p p' hne b (⟨hp, hT⟩ | ⟨hp, hT⟩) (⟨hp', hT'⟩ | ⟨hp', hT'⟩)
    · exact h3 p p' hne b hT hT'
    · have := (h2 p b hT).2.1
      have := (k1 _ b hT').1
      omega
    · have := (h2 p' b hT').2.1
      have := (k1 _ b hT).1
      omega
    · exact k2 _ _ (by omega) b hT hT'
  · intro p d u hd hu
    rw [List.flatMap_append] at hd
    by_cases hp : p < l.length * s
    · rw [List.getElem?_append_left (by omega)] at hd hu
      refine ((h4 p d u hd hu).later hb).keep fun b hT hlt => ⟨.inl ⟨hp, hT⟩, hg.block b hlt fun e => (h2 p b hT).2.2 e.symm⟩
    · rw [List.getElem?_append_right (by omega), hfl] at hd
      rw [List.getElem?_append_right (by omega), hxl] at hu
      have hd' : (enc x)[p - l.length * s]? = some d := by simpa using hd
      refine (k3 _ d u hd' hu).keep fun b hT hlt => ⟨.inr ⟨by omega, hT⟩, hg.block b hlt fun e => ?_⟩
      have := (h1.lt b e.symm).2
      have := (k1 _ b hT).1
      omega
end Go.Proofs.Ytjjmbldgemnhbaa
