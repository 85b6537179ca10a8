/-
  Values without slices: NumberValue, TextValue, StreamValue, ErrorValue, TruthValue, CheckedNumber: the walks.
-/
import Derived.Test.YtghemlokpfipoaaYMD
namespace Go.Proofs.Ytghemlokpfipoaa
open Go.ChangeShapes Go.WideShapes Go.ChangeAt Go.RowKit
set_option linter.unusedVariables false
set_option linter.unusedSimpArgs false

theorem own_nil (w : World) (S : Nat → Prop) (s : Nat) : Own w S (.sl s 0 []) (.slice none 0 0) :=
  Own.of_row noB (World.ownsRow_nil w 0 0 s) (by simp) (fun g hg => by simp [Value.ownBlock] at hg) (fun _ _ h => False.elim h) (fun _ _ _ _ h => False.elim h) (fun i d u hd => by simp at hd)
/-- A value without slices, cell by cell. -/
def leafD (k n s : Int) (t : ByteArray) : Vl := .mk k n s t [] [] []
theorem owns_leafV (w : World) (S : Nat → Prop) {k n s : Int} {t : ByteArray} (hk : Between64 k) (hn : Between64 n) (hs : Between64 s) (ht : t.size ≤ 9223372036854775807) :
    Owns w S (encV (leafD k n s t)) [.int .i64 k, .int .i64 n, .int .i64 s, .string t, .slice none 0 0, .slice none 0 0, .slice none 0 0] := by
  unfold leafD
  rw [encV]
  exact Owns.leaf' (.int _ _ hk) (Owns.leaf' (.int _ _ hn) (Owns.leaf' (.int _ _ hs) (Owns.leaf' (.str _ _ ht) (Owns.leaf' (own_nil _ _ 7) (Owns.leaf' (own_nil _ _ 1) (Owns.leaf' (own_nil _ _ 2) (owns_nil _ _)))))))
theorem cost_leaf (k n s : Int) (t : ByteArray) : (leafD k n s t).cost = t.size := by
  unfold leafD
  rw [Vl.cost_mk]
  simp [sumN, costS]
def leafA (k n s : Int) (t : ByteArray) : Value := .agg #[.int .i64 k, .int .i64 n, .int .i64 s, .string t, .slice none 0 0, .slice none 0 0, .slice none 0 0]
theorem between_lit {n : Int} (h : -1099511627776 ≤ n) (h2 : n ≤ 1099511627776) : Between64 n := by unfold Between64; omega
theorem copy_leaf {W w' : World} {k n s : Int} {t : ByteArray} {r : Ending} (hr : r = .returned (leafA k n s t)) (hk : Between64 k) (hn : Between64 n) (hs : Between64 s) (ht : t.size ≤ 9223372036854775807) : CopyV W w' (leafD k n s t) r :=
  ⟨_, _, _, _, _, _, _, _, _, _, _, _, _, hr, owns_leafV _ _ hk hn hs ht⟩


theorem specNumberValue (n : Int) (W : World) : Calls Try.prog 26 #[.int .i64 n] W fun r w' => r = .returned (leafA 1 n 0 ⟨#[]⟩) ∧ Later W w' := by
  go_enter Try.func26, Try.ntmps26
  go_wp2_with fail
  exact bodyPost_ret (v := leafA 1 n 0 ⟨#[]⟩) (by simp [results, Try.results26, go_sem, leafA]) rfl ⟨rfl, (Later.rfl' _).alloc _⟩

theorem specErrorValue (n : Int) (W : World) : Calls Try.prog 75 #[.int .i64 n] W fun r w' => r = .returned (leafA 6 n 0 ⟨#[]⟩) ∧ Later W w' := by
  go_enter Try.func75, Try.ntmps75
  go_wp2_with fail
  exact bodyPost_ret (v := leafA 6 n 0 ⟨#[]⟩) (by simp [results, Try.results75, go_sem, leafA]) rfl ⟨rfl, (Later.rfl' _).alloc _⟩

theorem specStreamValue (n s : Int) (W : World) : Calls Try.prog 83 #[.int .i64 n, .int .i64 s] W fun r w' => r = .returned (leafA 4 n s ⟨#[]⟩) ∧ Later W w' := by
  go_enter Try.func83, Try.ntmps83
  go_wp2_with fail
  exact bodyPost_ret (v := leafA 4 n s ⟨#[]⟩) (by simp [results, Try.results83, go_sem, leafA]) rfl ⟨rfl, (Later.rfl' _).alloc _⟩

theorem specTextValue (t : ByteArray) (W : World) : Calls Try.prog 138 #[.string t] W fun r w' => r = .returned (leafA 2 0 0 t) ∧ Later W w' := by
  go_enter Try.func138, Try.ntmps138
  go_wp2_with fail
  exact bodyPost_ret (v := leafA 2 0 0 t) (by simp [results, Try.results138, go_sem, leafA]) rfl ⟨rfl, (Later.rfl' _).alloc _⟩

theorem specTruthValue (b : Bool) (W : World) : Calls Try.prog 93 #[.bool b] W fun r w' => r = .returned (leafA 1 (if b then 1 else 0) 0 ⟨#[]⟩) ∧ Later W w' := by
  cases b
  · go_enter Try.func93, Try.ntmps93
    go_wp2_with fail
    refine (specNumberValue _ _).mono ?_; rintro e w1 ⟨rfl, hb1⟩
    unfold leafA
    have B := (box_alloc W _ _).later hb1
    have L := Lib.hid (((Later.rfl' W).alloc _).trans hb1)
    clear hb1
    have b0 := B.cell (j := 0) rfl
    have f0 := B.free 0
    have b1 := B.cell (j := 1) rfl
    have f1 := B.free 1
    have b2 := B.cell (j := 2) rfl
    have f2 := B.free 2
    have b3 := B.cell (j := 3) rfl
    have f3 := B.free 3
    have b4 := B.cell (j := 4) rfl
    have f4 := B.free 4
    have b5 := B.cell (j := 5) rfl
    have f5 := B.free 5
    have b6 := B.cell (j := 6) rfl
    have f6 := B.free 6
    clear B
    go_wp2_with fail
    exact bodyPost_ret (v := leafA 1 0 0 ⟨#[]⟩) (by simp [results, Try.results93, go_sem, leafA, b0, b1, b2, b3, b4, b5, b6]) rfl ⟨rfl, later_setFrom (Nat.le_refl _) [.int .i64 1, .int .i64 0, .int .i64 0, .string ⟨#[]⟩, .slice none 0 0, .slice none 0 0, .slice none 0 0] _ 0 L.out⟩
  · go_enter Try.func93, Try.ntmps93
    go_wp2_with fail
    refine (specNumberValue _ _).mono ?_; rintro e w1 ⟨rfl, hb1⟩
    unfold leafA
    have B := (box_alloc W _ _).later hb1
    have L := Lib.hid (((Later.rfl' W).alloc _).trans hb1)
    clear hb1
    have b0 := B.cell (j := 0) rfl
    have f0 := B.free 0
    have b1 := B.cell (j := 1) rfl
    have f1 := B.free 1
    have b2 := B.cell (j := 2) rfl
    have f2 := B.free 2
    have b3 := B.cell (j := 3) rfl
    have f3 := B.free 3
    have b4 := B.cell (j := 4) rfl
    have f4 := B.free 4
    have b5 := B.cell (j := 5) rfl
    have f5 := B.free 5
    have b6 := B.cell (j := 6) rfl
    have f6 := B.free 6
    clear B
    go_wp2_with fail
    exact bodyPost_ret (v := leafA 1 1 0 ⟨#[]⟩) (by simp [results, Try.results93, go_sem, leafA, b0, b1, b2, b3, b4, b5, b6]) rfl ⟨rfl, later_setFrom (Nat.le_refl _) [.int .i64 1, .int .i64 1, .int .i64 0, .string ⟨#[]⟩, .slice none 0 0, .slice none 0 0, .slice none 0 0] _ 0 L.out⟩

theorem implNumberValue (n : Int) (W : World) : Calls Try.prog 73 #[.int .i64 n] W fun r w' => r = .returned (leafA 1 n 0 ⟨#[]⟩) ∧ Later W w' := by
  go_enter Try.func73, Try.ntmps73
  go_wp2_with fail
  exact bodyPost_ret (v := leafA 1 n 0 ⟨#[]⟩) (by simp [results, Try.results73, go_sem, leafA]) rfl ⟨rfl, (Later.rfl' _).alloc _⟩

theorem implErrorValue (n : Int) (W : World) : Calls Try.prog 32 #[.int .i64 n] W fun r w' => r = .returned (leafA 6 n 0 ⟨#[]⟩) ∧ Later W w' := by
  go_enter Try.func32, Try.ntmps32
  go_wp2_with fail
  exact bodyPost_ret (v := leafA 6 n 0 ⟨#[]⟩) (by simp [results, Try.results32, go_sem, leafA]) rfl ⟨rfl, (Later.rfl' _).alloc _⟩

theorem implStreamValue (n s : Int) (W : World) : Calls Try.prog 79 #[.int .i64 n, .int .i64 s] W fun r w' => r = .returned (leafA 4 n s ⟨#[]⟩) ∧ Later W w' := by
  go_enter Try.func79, Try.ntmps79
  go_wp2_with fail
  exact bodyPost_ret (v := leafA 4 n s ⟨#[]⟩) (by simp [results, Try.results79, go_sem, leafA]) rfl ⟨rfl, (Later.rfl' _).alloc _⟩

theorem implTextValue (t : ByteArray) (W : World) : Calls Try.prog 88 #[.string t] W fun r w' => r = .returned (leafA 2 0 0 t) ∧ Later W w' := by
  go_enter Try.func88, Try.ntmps88
  go_wp2_with fail
  exact bodyPost_ret (v := leafA 2 0 0 t) (by simp [results, Try.results88, go_sem, leafA]) rfl ⟨rfl, (Later.rfl' _).alloc _⟩

theorem implTruthValue (b : Bool) (W : World) : Calls Try.prog 90 #[.bool b] W fun r w' => r = .returned (leafA 1 (if b then 1 else 0) 0 ⟨#[]⟩) ∧ Later W w' := by
  cases b
  · go_enter Try.func90, Try.ntmps90
    go_wp2_with fail
    refine (implNumberValue _ _).mono ?_; rintro e w1 ⟨rfl, hb1⟩
    unfold leafA
    have B := (box_alloc W _ _).later hb1
    have L := Lib.hid (((Later.rfl' W).alloc _).trans hb1)
    clear hb1
    have b0 := B.cell (j := 0) rfl
    have f0 := B.free 0
    have b1 := B.cell (j := 1) rfl
    have f1 := B.free 1
    have b2 := B.cell (j := 2) rfl
    have f2 := B.free 2
    have b3 := B.cell (j := 3) rfl
    have f3 := B.free 3
    have b4 := B.cell (j := 4) rfl
    have f4 := B.free 4
    have b5 := B.cell (j := 5) rfl
    have f5 := B.free 5
    have b6 := B.cell (j := 6) rfl
    have f6 := B.free 6
    clear B
    go_wp2_with fail
    exact bodyPost_ret (v := leafA 1 0 0 ⟨#[]⟩) (by simp [results, Try.results90, go_sem, leafA, b0, b1, b2, b3, b4, b5, b6]) rfl ⟨rfl, later_setFrom (Nat.le_refl _) [.int .i64 1, .int .i64 0, .int .i64 0, .string ⟨#[]⟩, .slice none 0 0, .slice none 0 0, .slice none 0 0] _ 0 L.out⟩
  · go_enter Try.func90, Try.ntmps90
    go_wp2_with fail
    refine (implNumberValue _ _).mono ?_; rintro e w1 ⟨rfl, hb1⟩
    unfold leafA
    have B := (box_alloc W _ _).later hb1
    have L := Lib.hid (((Later.rfl' W).alloc _).trans hb1)
    clear hb1
    have b0 := B.cell (j := 0) rfl
    have f0 := B.free 0
    have b1 := B.cell (j := 1) rfl
    have f1 := B.free 1
    have b2 := B.cell (j := 2) rfl
    have f2 := B.free 2
    have b3 := B.cell (j := 3) rfl
    have f3 := B.free 3
    have b4 := B.cell (j := 4) rfl
    have f4 := B.free 4
    have b5 := B.cell (j := 5) rfl
    have f5 := B.free 5
    have b6 := B.cell (j := 6) rfl
    have f6 := B.free 6
    clear B
    go_wp2_with fail
    exact bodyPost_ret (v := leafA 1 1 0 ⟨#[]⟩) (by simp [results, Try.results90, go_sem, leafA, b0, b1, b2, b3, b4, b5, b6]) rfl ⟨rfl, later_setFrom (Nat.le_refl _) [.int .i64 1, .int .i64 1, .int .i64 0, .string ⟨#[]⟩, .slice none 0 0, .slice none 0 0, .slice none 0 0] _ 0 L.out⟩
end Go.Proofs.Ytghemlokpfipoaa
