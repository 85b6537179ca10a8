/-
  The cursor of draws stands where variables that hold no bytes are written.
-/
import Derived.Test.YtghemlokpfipoaaYK3
namespace Go.Proofs.Ytghemlokpfipoaa
open Go.ChangeShapes Go.WideShapes Go.ChangeAt Go.RowKit
set_option linter.unusedVariables false
set_option linter.unusedSimpArgs false

theorem box_no {w : World} {g : Nat} {xs : List Value} (B : Box w g xs) {j : Nat} {u : Value} (h : w.cell? ⟨g, j, none⟩ = some u) : xs[j]? = some u := by
  obtain ⟨e, hr⟩ := B
  by_cases hj : j < xs.length
  · have := hr.cellAt j (by omega)
    rw [h] at this
    exact this.symm
  · rcases hr.2 with hn | ⟨g', cap, cur, hv, h0, hg, hnc, hm, hs, htake⟩
    · cases hn.1
    · simp only [Value.slice.injEq, Option.some.injEq, Addr.mk.injEq, and_true, true_and] at hv
      obtain ⟨rfl, _, rfl⟩ := hv
      rw [cell_of_row _ _ j cur e (0, 0) hg] at h
      have : j < cur.size := (Array.getElem?_eq_some_iff.1 h).1
      omega
def NoByte (xs : List Value) : Prop := ∀ (j : Nat) (x : Int), xs[j]? ≠ some (.int .u8 x)
/-- The cursor stands where variables that hold no bytes are written. -/
theorem CurAt.boxes {w w' : World} {g : Nat} (h : CurAt w g) {P : Nat → Prop} (hP : ∀ b, P b → b ≠ g ∧ ∃ xs, Box w b xs ∧ NoByte xs) (c : Chg P w w') : CurAt w' g := by
  obtain ⟨A, c0, n, i, hh, B, h1, h2, h3, h4⟩ := h
  refine ⟨A, c0, n, i, hh, B.chg c fun hg => (hP g hg).1 rfl, h1, h2, h3, fun hn => ?_⟩
  obtain ⟨b, off, e, hl, hc⟩ := h4 hn
  refine ⟨b, off, e, hl, fun i hi => ?_⟩
  obtain ⟨x, hx, hcell⟩ := hc i hi
  refine ⟨x, hx, ?_⟩
  have hlt : b < w.heap.size := by have := B.lt; omega
  refine (World.cell?_of_block (w := w) (a := ⟨b, _, none⟩) (c.block b hlt fun hb => ?_)).trans hcell
  obtain ⟨_, xs, hB, hno⟩ := hP b hb
  exact hno _ _ (box_no hB hcell)
theorem noByte_seven {a b c : Int} {t : ByteArray} {A1 A2 A3 : Option Addr} {n1 c1 n2 c2 n3 c3 : Nat} : NoByte [.int .i64 a, .int .i64 b, .int .i64 c, .string t, .slice A1 n1 c1, .slice A2 n2 c2, .slice A3 n3 c3] := by
  intro j x
  match j with
  | 0 => simp
  | 1 => simp
  | 2 => simp
  | 3 => simp
  | 4 => simp
  | 5 => simp
  | 6 => simp
  | j + 7 => simp
end Go.Proofs.Ytghemlokpfipoaa
