/-
  What the makers of leaves answer, in one form; a list out of two.
-/
import Derived.Test.YtghemlokpfipoaaYMG6
namespace Go.Proofs.Ytghemlokpfipoaa
open Go.ChangeShapes Go.WideShapes Go.ChangeAt Go.RowKit
set_option linter.unusedVariables false
set_option linter.unusedSimpArgs false
set_option maxRecDepth 100000

/-- A leaf's value. -/
def LeafR (K : Vl) (r : Ending) : Prop := ∃ k n s t, r = .returned (leafA k n s t) ∧ K = leafD k n s t ∧ Between64 k ∧ Between64 n ∧ Between64 s ∧ t.size ≤ 9223372036854775807
theorem chk_k (n : Int) : Between64 (if numV n = true then 1 else 6) := by unfold Between64; split <;> omega
theorem chk_n (n : Int) : Between64 (if numV n = true then n else 5) := by
  unfold Between64
  split
  · rename_i h
    have := numV_iff.1 h
    omega
  · omega
theorem mul_bounds {a b : Int} (h1 : -1000000000 ≤ a ∧ a ≤ 1000000000) (h2 : -1000000000 ≤ b ∧ b ≤ 1000000000) : -1000000000000000000 ≤ a * b ∧ a * b ≤ 1000000000000000000 := by
  have ha : a.natAbs ≤ 1000000000 := by omega
  have hb : b.natAbs ≤ 1000000000 := by omega
  have h := Nat.mul_le_mul ha hb
  rw [← Int.natAbs_mul] at h
  omega
theorem leafOut_of {W : World} {K : Vl} {k n s : Int} {t : ByteArray} (hK : K = leafD k n s t) (h1 : Between64 k) (h2 : Between64 n) (h3 : Between64 s) (h4 : t.size ≤ 9223372036854775807) : LeafOut W K (.returned (leafA k n s t)) := leaf_out W hK h1 h2 h3 h4
theorem leaf_later {W W' : World} {K : Vl} {r : Ending} (h : LeafOut W K r) (hb : Later W W') : LeafOut W' K r := by
  obtain ⟨z0, z1, z2, z3, E1, u1, m1, E2, u2, m2, E3, u3, m3, hr, ha⟩ := h
  exact ⟨_, _, _, _, _, _, _, _, _, _, _, _, _, hr, fun w hw => ha w (hb.trans hw)⟩
/-- A value that lies in blocks from lo on. -/
def LeafB (lo : Nat) (w : World) (K : Vl) (r : Ending) : Prop := ∃ z0 z1 z2 z3 E1 u1 m1 E2 u2 m2 E3 u3 m3, r = .returned (.agg #[.int .i64 z0, .int .i64 z1, .int .i64 z2, .string z3, .slice E1 u1 m1, .slice E2 u2 m2, .slice E3 u3 m3]) ∧
  Ats w (fun b => lo ≤ b) (encV K) [.int .i64 z0, .int .i64 z1, .int .i64 z2, .string z3, .slice E1 u1 m1, .slice E2 u2 m2, .slice E3 u3 m3]
theorem leafB_of {lo : Nat} {w : World} {K : Vl} {k n s : Int} {t : ByteArray} (hK : K = leafD k n s t) (h1 : Between64 k) (h2 : Between64 n) (h3 : Between64 s) (h4 : t.size ≤ 9223372036854775807) : LeafB lo w K (.returned (leafA k n s t)) :=
  ⟨_, _, _, _, _, _, _, _, _, _, _, _, _, rfl, hK ▸ (owns_leafV w _ h1 h2 h3 h4).ats⟩
theorem LeafB.out {lo : Nat} {w : World} {K : Vl} {r : Ending} (h : LeafB lo w K r) : LeafOut w K r := by
  obtain ⟨z0, z1, z2, z3, E1, u1, m1, E2, u2, m2, E3, u3, m3, hr, ha⟩ := h
  exact ⟨_, _, _, _, _, _, _, _, _, _, _, _, _, hr, fun w hw => (ha.later hw).any⟩

theorem specChk (n : Int) (W : World) : Calls Try.prog 76 #[.int .i64 n] W fun r w' => LeafR (chkD n) r ∧ Later W w' :=
  (specChecked n W).mono fun r w' h => ⟨⟨_, _, _, _, h.1, rfl, chk_k n, chk_n n, by unfold Between64; omega, by decide⟩, h.2⟩
theorem specTru (b : Bool) (W : World) : Calls Try.prog 93 #[.bool b] W fun r w' => LeafR (truthD b) r ∧ Later W w' :=
  (specTruthValue b W).mono fun r w' h => ⟨⟨_, _, _, _, h.1, rfl, by unfold Between64; omega, by cases b <;> (unfold Between64; decide), by unfold Between64; omega, by decide⟩, h.2⟩
theorem specErr (m : Int) (hm : 1 ≤ m ∧ m ≤ 8) (W : World) : Calls Try.prog 75 #[.int .i64 m] W fun r w' => LeafR (errD m) r ∧ Later W w' :=
  (specErrorValue m W).mono fun r w' h => ⟨⟨_, _, _, _, h.1, rfl, by unfold Between64; omega, by unfold Between64; omega, by unfold Between64; omega, by decide⟩, h.2⟩
theorem specTxt (t : ByteArray) (ht : t.size ≤ 9223372036854775807) (W : World) : Calls Try.prog 138 #[.string t] W fun r w' => LeafR (leafD 2 0 0 t) r ∧ Later W w' :=
  (specTextValue t W).mono fun r w' h => ⟨⟨_, _, _, _, h.1, rfl, by unfold Between64; omega, by unfold Between64; omega, by unfold Between64; omega, ht⟩, h.2⟩


theorem implChk (n : Int) (W : World) : Calls Try.prog 85 #[.int .i64 n] W fun r w' => LeafR (chkD n) r ∧ Later W w' :=
  (implChecked n W).mono fun r w' h => ⟨⟨_, _, _, _, h.1, rfl, chk_k n, chk_n n, by unfold Between64; omega, by decide⟩, h.2⟩
theorem implTru (b : Bool) (W : World) : Calls Try.prog 90 #[.bool b] W fun r w' => LeafR (truthD b) r ∧ Later W w' :=
  (implTruthValue b W).mono fun r w' h => ⟨⟨_, _, _, _, h.1, rfl, by unfold Between64; omega, by cases b <;> (unfold Between64; decide), by unfold Between64; omega, by decide⟩, h.2⟩
theorem implErr (m : Int) (hm : 1 ≤ m ∧ m ≤ 8) (W : World) : Calls Try.prog 32 #[.int .i64 m] W fun r w' => LeafR (errD m) r ∧ Later W w' :=
  (implErrorValue m W).mono fun r w' h => ⟨⟨_, _, _, _, h.1, rfl, by unfold Between64; omega, by unfold Between64; omega, by unfold Between64; omega, by decide⟩, h.2⟩
theorem implTxt (t : ByteArray) (ht : t.size ≤ 9223372036854775807) (W : World) : Calls Try.prog 88 #[.string t] W fun r w' => LeafR (leafD 2 0 0 t) r ∧ Later W w' :=
  (implTextValue t W).mono fun r w' h => ⟨⟨_, _, _, _, h.1, rfl, by unfold Between64; omega, by unfold Between64; omega, by unfold Between64; omega, ht⟩, h.2⟩

end Go.Proofs.Ytghemlokpfipoaa
