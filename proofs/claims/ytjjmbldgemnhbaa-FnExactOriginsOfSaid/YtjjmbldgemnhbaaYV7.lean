/-
  Values without slices: NumberValue, TextValue, StreamValue, ErrorValue, TruthValue, CheckedNumber: the walks.
-/
import Derived.Test.YtjjmbldgemnhbaaYMD
namespace Go.Proofs.Ytjjmbldgemnhbaa
open Go.ChangeShapes Go.WideShapes Go.ChangeAt Go.RowKit
set_option linter.unusedVariables false
set_option linter.unusedSimpArgs false

theorem own_nil (w : World) (S : Nat → Prop) (s : Nat) : Own w S (.sl s 0 []) (.slice none 0 0) :=
  Own.of_row noB (World.ownsRow_nil w 0 0 s) (by simp) (fun g hg => by simp [Value.ownBlock] at hg) (fun _ _ h => False.elim h) (fun _ _ _ _ h => False.elim h) (fun i d u hd => by simp at hd)
/-- A value without slices, cell by cell. -/
def leafD (k n s : Int) (t : ByteArray) : Vl := .mk k n s t [] [] []
theorem owns_leafV (w : World) (S : Nat → Prop) {k n s : Int} {t : ByteArray} (hk : Between64 k) (hn : Between64 n) (hs : Between64 s) (ht : t.size ≤ 9223372036854775807) :
    Owns w S (encV (leafD k n s t)) [.int .i64 k, .int .i64 n, .int .i64 s, .string t, .slice none 0 0, .slice none 0 0, .slice none 0 0] := by
  unfold leafD
  rw [encV]
  exact Owns.leaf' (.int _ _ hk) (Owns.leaf' (.int _ _ hn) (Owns.leaf' (.int _ _ hs) (Owns.leaf' (.str _ _ ht) (Owns.leaf' (own_nil _ _ 7) (Owns.leaf' (own_nil _ _ 1) (Owns.leaf' (own_nil _ _ 2) (owns_nil _ _)))))))
theorem cost_leaf (k n s : Int) (t : ByteArray) : (leafD k n s t).cost = t.size := by
  unfold leafD
  rw [Vl.cost_mk]
  simp [sumN, costS]
def leafA (k n s : Int) (t : ByteArray) : Value := .agg #[.int .i64 k, .int .i64 n, .int .i64 s, .string t, .slice none 0 0, .slice none 0 0, .slice none 0 0]
theorem between_lit {n : Int} (h : -1099511627776 ≤ n) (h2 : n ≤ 1099511627776) : Between64 n := by unfold Between64; omega
theorem copy_leaf {W w' : World} {k n s : Int} {t : ByteArray} {r : Ending} (hr : r = .returned (leafA k n s t)) (hk : Between64 k) (hn : Between64 n) (hs : Between64 s) (ht : t.size ≤ 9223372036854775807) : CopyV W w' (leafD k n s t) r :=
  ⟨_, _, _, _, _, _, _, _, _, _, _, _, _, hr, owns_leafV _ _ hk hn hs ht⟩











end Go.Proofs.Ytjjmbldgemnhbaa
