/-
  Values without slices: NumberValue, TextValue, StreamValue, ErrorValue, TruthValue, CheckedNumber: the walks.
-/
import Derived.Test.YtefhaochkfodnaaD12
namespace Go.Proofs.Ytefhaochkfodnaa
open Go.ChangeShapes Go.WideShapes Go.ChangeAt Go.RowKit
set_option linter.unusedVariables false
set_option linter.unusedSimpArgs false

theorem own_nil (w : World) (S : Nat → Prop) (s : Nat) : Own w S (.sl s 0 []) (.slice none 0 0) :=
  Own.of_row noB (World.ownsRow_nil w 0 0 s) (by simp) (fun g hg => by simp [Value.ownBlock] at hg) (fun _ _ h => False.elim h) (fun _ _ _ _ h => False.elim h) (fun i d u hd => by simp at hd)
/-- A value without slices, cell by cell. -/
def leafD (k n s : Int) (t : ByteArray) : Vl := .mk k n s t [] [] []
theorem owns_leafV (w : World) (S : Nat → Prop) {k n s : Int} {t : ByteArray} (hk : Between64 k) (hn : Between64 n) (hs : Between64 s) (ht : t.size ≤ 9223372036854775807) :
    Owns w S (encV (leafD k n s t)) [.int .i64 k, .int .i64 n, .int .i64 s, .string t, .slice none 0 0, .slice none 0 0, .slice none 0 0] := by
  unfold leafD
  rw [encV]
  exact Owns.leaf' (.int _ _ hk) (Owns.leaf' (.int _ _ hn) (Owns.leaf' (.int _ _ hs) (Owns.leaf' (.str _ _ ht) (Owns.leaf' (own_nil _ _ 7) (Owns.leaf' (own_nil _ _ 1) (Owns.leaf' (own_nil _ _ 2) (owns_nil _ _)))))))
theorem cost_leaf (k n s : Int) (t : ByteArray) : (leafD k n s t).cost = t.size := by
  unfold leafD
  rw [Vl.cost_mk]
  simp [sumN, costS]
def leafA (k n s : Int) (t : ByteArray) : Value := .agg #[.int .i64 k, .int .i64 n, .int .i64 s, .string t, .slice none 0 0, .slice none 0 0, .slice none 0 0]
theorem between_lit {n : Int} (h : -1099511627776 ≤ n) (h2 : n ≤ 1099511627776) : Between64 n := by unfold Between64; omega
theorem copy_leaf {W w' : World} {k n s : Int} {t : ByteArray} {r : Ending} (hr : r = .returned (leafA k n s t)) (hk : Between64 k) (hn : Between64 n) (hs : Between64 s) (ht : t.size ≤ 9223372036854775807) : CopyV W w' (leafD k n s t) r :=
  ⟨_, _, _, _, _, _, _, _, _, _, _, _, _, hr, owns_leafV _ _ hk hn hs ht⟩


theorem specNumberValue (n : Int) (W : World) : Calls Try.prog 69 #[.int .i64 n] W fun r w' => r = .returned (leafA 1 n 0 ⟨#[]⟩) ∧ Later W w' := by
  go_enter Try.func69, Try.ntmps69
  go_wp2_with fail
  exact bodyPost_ret (v := leafA 1 n 0 ⟨#[]⟩) (by simp [results, Try.results69, go_sem, leafA]) rfl ⟨rfl, (Later.rfl' _).alloc _⟩

theorem specErrorValue (n : Int) (W : World) : Calls Try.prog 70 #[.int .i64 n] W fun r w' => r = .returned (leafA 6 n 0 ⟨#[]⟩) ∧ Later W w' := by
  go_enter Try.func70, Try.ntmps70
  go_wp2_with fail
  exact bodyPost_ret (v := leafA 6 n 0 ⟨#[]⟩) (by simp [results, Try.results70, go_sem, leafA]) rfl ⟨rfl, (Later.rfl' _).alloc _⟩




theorem implNumberValue (n : Int) (W : World) : Calls Try.prog 72 #[.int .i64 n] W fun r w' => r = .returned (leafA 1 n 0 ⟨#[]⟩) ∧ Later W w' := by
  go_enter Try.func72, Try.ntmps72
  go_wp2_with fail
  exact bodyPost_ret (v := leafA 1 n 0 ⟨#[]⟩) (by simp [results, Try.results72, go_sem, leafA]) rfl ⟨rfl, (Later.rfl' _).alloc _⟩

theorem implErrorValue (n : Int) (W : World) : Calls Try.prog 73 #[.int .i64 n] W fun r w' => r = .returned (leafA 6 n 0 ⟨#[]⟩) ∧ Later W w' := by
  go_enter Try.func73, Try.ntmps73
  go_wp2_with fail
  exact bodyPost_ret (v := leafA 6 n 0 ⟨#[]⟩) (by simp [results, Try.results73, go_sem, leafA]) rfl ⟨rfl, (Later.rfl' _).alloc _⟩



end Go.Proofs.Ytefhaochkfodnaa
