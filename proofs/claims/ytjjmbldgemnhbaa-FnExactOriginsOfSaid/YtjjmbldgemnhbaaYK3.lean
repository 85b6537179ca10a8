/-
  Draws of names and of lists of names: the walks.
-/
import Derived.Test.YtjjmbldgemnhbaaYK1
import Derived.Test.YtjjmbldgemnhbaaYW1
namespace Go.Proofs.Ytjjmbldgemnhbaa
open Go.ChangeShapes Go.WideShapes Go.ChangeAt Go.RowKit
set_option linter.unusedVariables false
set_option linter.unusedSimpArgs false
set_option maxRecDepth 100000

theorem CurAt.chg {w w' : World} {g : Nat} {S : Nat → Prop} (h : CurAt w g) (c : Chg S w w') (hS : ∀ b, b ≤ g → ¬ S b) : CurAt w' g := by
  obtain ⟨A, c0, n, i, hh, B, h1, h2, h3, h4⟩ := h
  refine ⟨A, c0, n, i, hh, B.chg c (hS g (Nat.le_refl _)), h1, h2, h3, fun hn => ?_⟩
  obtain ⟨b, off, e, hl, hc⟩ := h4 hn
  refine ⟨b, off, e, hl, fun k hk => ?_⟩
  obtain ⟨x, hx, hcell⟩ := hc k hk
  exact ⟨x, hx, (World.cell?_of_block (w := w) (a := ⟨b, _, none⟩) (c.block b (Nat.lt_trans hl B.lt) (hS b (Nat.le_of_lt hl)))).trans hcell⟩
theorem CurAt.lt {w : World} {g : Nat} (h : CurAt w g) : g < w.heap.size := by
  obtain ⟨A, c0, n, i, hh, B, _⟩ := h
  exact B.lt
theorem chg_grown {w w' : World} {row : Option Nat} (h : w.grownBy w' row) : Chg (fun b => some b = row) w w' := ⟨h.os, h.tape, h.output, h.size, fun k hk hne => h.block k hk fun e => hne e⟩

def nameList : List ByteArray := [⟨#[97]⟩, ⟨#[98]⟩, ⟨#[99]⟩, ⟨#[100]⟩, ⟨#[120]⟩, ⟨#[121]⟩, ⟨#[116]⟩, ⟨#[117]⟩]
def anyList : List ByteArray := [⟨#[]⟩, ⟨#[49, 97]⟩, ⟨#[97, 49]⟩, ⟨#[97, 98, 99, 100, 101, 102, 103, 104]⟩, ⟨#[97, 98, 99, 100, 101, 102, 103, 104, 105]⟩, ⟨#[108, 101, 116]⟩, ⟨#[116, 97, 98, 108, 101]⟩, ⟨#[115, 117, 109]⟩, ⟨#[115, 117, 109, 115]⟩, ⟨#[65]⟩, ⟨#[97, 95, 98]⟩, ⟨#[108, 101, 110]⟩]
theorem nameList_small : ∀ s ∈ nameList, s.size ≤ 100 := by decide
theorem anyList_small : ∀ s ∈ anyList, s.size ≤ 100 := by decide
def SmallS (g : Nat) (W w' : World) (r : Ending) : Prop := (∃ s : ByteArray, s.size ≤ 100 ∧ r = .returned (.string s)) ∧ CurAt w' g ∧ Chg (onlyB g) W w'


/-- A list of small strings that a call has made. -/
def SmallL (lo : Nat) (w' : World) (v : Value) (xs : List ByteArray) : Prop := w'.ownsRow lo 9 1 v xs.length (xs.map .string) ∧ xs.length ≤ 6 ∧ ∀ x ∈ xs, x.size ≤ 100
def freshB (g lo : Nat) : Nat → Prop := fun b => b = g ∨ lo ≤ b
end Go.Proofs.Ytjjmbldgemnhbaa
