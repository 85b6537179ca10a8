/-
  Valid values: columns, origins in order, tables: plain words; the walks of what has no loop in a loop.
-/
import Derived.Test.YtghemlokpfipoaaPart12
import Derived.Test.YtghemlokpfipoaaPart15
import Derived.IntWalk
namespace Go.Proofs.Ytghemlokpfipoaa
open Go.ChangeShapes Go.WideShapes Go.ChangeAt Go.RowKit
set_option linter.unusedVariables false
set_option linter.unusedSimpArgs false
set_option maxRecDepth 100000

/-- An integer that is a number of the program's. -/
def numV (n : Int) : Bool := decide (-1000000000 ≤ n) && decide (n ≤ 1000000000)
def beforeB (a b : Org) : Bool := decide (a.1 < b.1) || (decide (a.1 = b.1) && decide (a.2 < b.2))
def ascAt (l : List Org) (i : Nat) : Bool := decide (0 ≤ (l.getD i (0, 0)).1) && (decide (0 ≤ (l.getD i (0, 0)).2) && (decide (i = 0) || beforeB (l.getD (i - 1) (0, 0)) (l.getD i (0, 0))))
def ascB (l : List Org) : Bool := (List.range l.length).all (ascAt l)
def colsB (c : List ByteArray) : Bool := c.all validName && (decide (1 ≤ c.length) && (decide (c.length ≤ 4) && distinctB c))
def rowB (m : Nat) (r : Rw) : Bool := decide (r.cells.length = m) && (ascB r.from_ && r.cells.all numV)
def tableB (c : List ByteArray) (r : List Rw) : Bool := colsB c && (decide (r.length ≤ 12) && r.all (rowB c.length))

theorem all_true {α : Type} {p : α → Bool} {l : List α} (h : ∀ k, (hk : k < l.length) → p l[k] = true) : l.all p = true := by
  rw [List.all_eq_true]
  intro x hx
  obtain ⟨k, hk, rfl⟩ := List.getElem_of_mem hx
  exact h k hk
theorem all_false {α : Type} {p : α → Bool} {l : List α} {k : Nat} (hk : k < l.length) (h : p l[k] = false) : l.all p = false := by
  rw [List.all_eq_false]
  exact ⟨l[k], List.getElem_mem hk, by simp [h]⟩
theorem asc_true {l : List Org} (h : ∀ k, k < l.length → ascAt l k = true) : ascB l = true := by
  unfold ascB
  rw [List.all_eq_true]
  intro x hx
  exact h x (by simpa using hx)
theorem asc_false {l : List Org} {k : Nat} (hk : k < l.length) (h : ascAt l k = false) : ascB l = false := by
  unfold ascB
  rw [List.all_eq_false]
  exact ⟨k, by simpa using hk, by simp [h]⟩
theorem getD_at {l : List Org} {k : Nat} (hk : k < l.length) : l.getD k (0, 0) = l[k] := by simp [List.getD, hk]


theorem specIn (x lo hi : Int) (q : Bool) (hq : (decide (lo ≤ x) && decide (x ≤ hi)) = q) (W : World) : Calls Try.prog 99 #[.int .i64 x, .int .i64 lo, .int .i64 hi] W fun r w' => r = .returned (.bool q) ∧ W = w' := by
  have HQ := Lib.hid hq
  clear hq
  go_enter Try.func99, Try.ntmps99
  go_wp2
  all_goals
    go_ret
    exact ⟨ret_bool (by rw [← HQ.out]; simp <;> omega), rfl⟩
theorem specNumV (n : Int) (q : Bool) (hq : numV n = q) (W : World) : Calls Try.prog 95 #[.int .i64 n] W fun r w' => r = .returned (.bool q) ∧ W = w' := by
  have C := specIn n (-1000000000) 1000000000 q hq
  go_enter Try.func95, Try.ntmps95
  go_wp2_with fail
  refine (C _).mono ?_; rintro e w1 ⟨rfl, rfl⟩
  go_wp2_with fail
  go_ret
  exact ⟨rfl, rfl⟩
theorem specBefore (a0 a1 b0 b1 : Int) (q : Bool) (hq : beforeB (a0, a1) (b0, b1) = q) (W : World) : Calls Try.prog 149 #[.agg #[.int .i64 a0, .int .i64 a1], .agg #[.int .i64 b0, .int .i64 b1]] W fun r w' => r = .returned (.bool q) ∧ Later W w' := by
  have HQ := Lib.hid hq
  clear hq
  by_cases h1 : a0 < b0
  · go_enter Try.func149, Try.ntmps149
    go_wp2
    go_ret
    exact ⟨ret_bool (by rw [← HQ.out]; simp [beforeB, h1]), ((Later.rfl' _).alloc _).alloc _⟩
  · by_cases h2 : a0 = b0
    · subst h2
      by_cases h3 : a1 < b1
      · go_enter Try.func149, Try.ntmps149
        go_wp2
        go_ret
        exact ⟨ret_bool (by rw [← HQ.out]; simp [beforeB, h3]), ((Later.rfl' _).alloc _).alloc _⟩
      · go_enter Try.func149, Try.ntmps149
        go_wp2
        go_ret
        exact ⟨ret_bool (by rw [← HQ.out]; simp [beforeB, h3]), ((Later.rfl' _).alloc _).alloc _⟩
    · have h2' : (a0 == b0) = false := by simpa using h2
      have HH := Lib.hid h2
      clear h2
      go_enter Try.func149, Try.ntmps149
      go_wp2
      go_ret
      exact ⟨ret_bool (by rw [← HQ.out]; simp [beforeB, h1, HH.out]), ((Later.rfl' _).alloc _).alloc _⟩

theorem implIn (x lo hi : Int) (q : Bool) (hq : (decide (lo ≤ x) && decide (x ≤ hi)) = q) (W : World) : Calls Try.prog 68 #[.int .i64 x, .int .i64 lo, .int .i64 hi] W fun r w' => r = .returned (.bool q) ∧ W = w' := by
  have HQ := Lib.hid hq
  clear hq
  go_enter Try.func68, Try.ntmps68
  go_wp2
  all_goals
    go_ret
    exact ⟨ret_bool (by rw [← HQ.out]; simp <;> omega), rfl⟩
theorem implNumV (n : Int) (q : Bool) (hq : numV n = q) (W : World) : Calls Try.prog 66 #[.int .i64 n] W fun r w' => r = .returned (.bool q) ∧ W = w' := by
  have C := implIn n (-1000000000) 1000000000 q hq
  go_enter Try.func66, Try.ntmps66
  go_wp2_with fail
  refine (C _).mono ?_; rintro e w1 ⟨rfl, rfl⟩
  go_wp2_with fail
  go_ret
  exact ⟨rfl, rfl⟩
theorem implBefore (a0 a1 b0 b1 : Int) (q : Bool) (hq : beforeB (a0, a1) (b0, b1) = q) (W : World) : Calls Try.prog 113 #[.agg #[.int .i64 a0, .int .i64 a1], .agg #[.int .i64 b0, .int .i64 b1]] W fun r w' => r = .returned (.bool q) ∧ Later W w' := by
  have HQ := Lib.hid hq
  clear hq
  by_cases h1 : a0 < b0
  · go_enter Try.func113, Try.ntmps113
    go_wp2
    go_ret
    exact ⟨ret_bool (by rw [← HQ.out]; simp [beforeB, h1]), ((Later.rfl' _).alloc _).alloc _⟩
  · by_cases h2 : a0 = b0
    · subst h2
      by_cases h3 : a1 < b1
      · go_enter Try.func113, Try.ntmps113
        go_wp2
        go_ret
        exact ⟨ret_bool (by rw [← HQ.out]; simp [beforeB, h3]), ((Later.rfl' _).alloc _).alloc _⟩
      · go_enter Try.func113, Try.ntmps113
        go_wp2
        go_ret
        exact ⟨ret_bool (by rw [← HQ.out]; simp [beforeB, h3]), ((Later.rfl' _).alloc _).alloc _⟩
    · have h2' : (a0 == b0) = false := by simpa using h2
      have HH := Lib.hid h2
      clear h2
      go_enter Try.func113, Try.ntmps113
      go_wp2
      go_ret
      exact ⟨ret_bool (by rw [← HQ.out]; simp [beforeB, h1, HH.out]), ((Later.rfl' _).alloc _).alloc _⟩

theorem specColumns (v : Value) (xs : List ByteArray) (W : World) (h : Strs W v xs) : Calls Try.prog 143 #[v] W fun r w' => r = .returned (.bool (colsB xs)) ∧ Later W w' := by
  have HST := Lib.hid h
  obtain ⟨⟨hm, hf⟩, A, c, rfl, hlc, hcm, hc⟩ := h
  have HF := Lib.hid hf; clear hf
  have HC := Lib.hid hc; clear hc
  go_enter Try.func143, Try.ntmps143
  go_wp2_with fail
  go_loopw [3] (fun i wr => ∃ j : Nat, j ≤ xs.length ∧ i = .int .i64 j ∧ (∀ k, (hk : k < xs.length) → k < j → validName xs[k] = true) ∧ Later W wr) (fun i _ => xs.length - (intOf i).toNat)
  case atStart => exact ⟨0, Nat.zero_le _, rfl, fun k _ h => absurd h (by omega), Later.rfl' _⟩
  case round =>
    obtain ⟨j, hj, rfl, hall, hw⟩ := hrel
    have HA := Lib.hid hall
    clear hall
    by_cases hlt : j < xs.length
    · obtain ⟨b, off, rfl, hb, hcell⟩ := (HC.out.later hw).at_ (k := j) (by simpa using hlt)
      simp only [List.getElem_map] at hcell
      have hxs := HF.out _ (List.getElem_mem hlt)
      have C := fun W => specIsValidName xs[j] W (by simp only [maxLen]; omega)
      obtain ⟨X, hX⟩ : ∃ x, x = xs[j] := ⟨_, rfl⟩
      rw [← hX] at hcell C hxs
      have HX := Lib.hid hX
      have HW := Lib.hid hw
      have HCC := Lib.hid C
      clear C hX hw
      cases hq : validName X with
      | true =>
        rw [hq] at HCC
        have HQ := Lib.hid hq
        clear hq
        go_wp2_with fail
        refine (HCC.out _).mono ?_; rintro e w1 ⟨rfl, hb1⟩
        go_wp2_with fail
        go_roundw
        case rel => exact ⟨j + 1, by omega, by go_num, fun k hk hkj => if e : k = j then by subst e; rw [← HX.out]; exact HQ.out else HA.out k hk (by omega), HW.out.trans hb1⟩
        case measure => simp [intOf]; omega
      | false =>
        rw [hq] at HCC
        have HV : Hid (colsB xs = false) := by unfold Hid colsB; rw [all_false hlt (by rw [← HX.out]; exact hq)]; rfl
        clear hq
        go_wp2_with fail
        refine (HCC.out _).mono ?_; rintro e w1 ⟨rfl, hb1⟩
        go_wp2_with fail
        go_ret
        exact ⟨ret_bool HV.out.symm, HW.out.trans hb1⟩
    · have hv : colsB xs = (decide (1 ≤ xs.length) && (decide (xs.length ≤ 4) && distinctB xs)) := by unfold colsB; rw [all_true fun k hk => HA.out k hk (by omega)]; rfl
      have HV := Lib.hid hv
      have HW := Lib.hid hw
      have CD := fun W' (hW' : Later W W') => specAllDistinct _ xs W' (HST.out.later hW')
      have HD := Lib.hid CD
      clear hv CD HA
      by_cases h14 : 1 ≤ xs.length ∧ xs.length ≤ 4
      · have HI := Lib.hid (fun W => specIn (xs.length : Int) 1 4 true (by simp; omega) W)
        have HV2 : Hid (colsB xs = distinctB xs) := by unfold Hid; rw [HV.out]; simp [h14.1, h14.2]
        clear h14
        go_wp2_with fail
        refine (HI.out _).mono ?_; rintro e w1 ⟨rfl, rfl⟩
        go_wp2_with fail
        refine (HD.out _ HW.out).mono ?_; rintro e w1 ⟨rfl, hb1⟩
        go_wp2_with fail
        go_ret
        exact ⟨ret_bool HV2.out.symm, HW.out.trans hb1.later⟩
      · have HI := Lib.hid (fun W => specIn (xs.length : Int) 1 4 false (by simp; omega) W)
        have HV2 : Hid (colsB xs = false) := by unfold Hid; rw [HV.out]; simp; omega
        clear h14
        go_wp2_with fail
        refine (HI.out _).mono ?_; rintro e w1 ⟨rfl, rfl⟩
        go_wp2_with fail
        go_ret
        exact ⟨ret_bool HV2.out.symm, HW.out⟩

theorem implColumns (v : Value) (xs : List ByteArray) (W : World) (h : Strs W v xs) : Calls Try.prog 133 #[v] W fun r w' => r = .returned (.bool (colsB xs)) ∧ Later W w' := by
  have HST := Lib.hid h
  obtain ⟨⟨hm, hf⟩, A, c, rfl, hlc, hcm, hc⟩ := h
  have HF := Lib.hid hf; clear hf
  have HC := Lib.hid hc; clear hc
  go_enter Try.func133, Try.ntmps133
  go_wp2_with fail
  go_loopw [7] (fun i wr => ∃ j : Nat, j ≤ xs.length ∧ i = .int .i64 j ∧ (∀ k, (hk : k < xs.length) → k < j → validName xs[k] = true) ∧ Later W wr) (fun i _ => xs.length - (intOf i).toNat)
  case atStart => exact ⟨0, Nat.zero_le _, rfl, fun k _ h => absurd h (by omega), Later.rfl' _⟩
  case round =>
    obtain ⟨j, hj, rfl, hall, hw⟩ := hrel
    have HA := Lib.hid hall
    clear hall
    by_cases hlt : j < xs.length
    · obtain ⟨b, off, rfl, hb, hcell⟩ := (HC.out.later hw).at_ (k := j) (by simpa using hlt)
      simp only [List.getElem_map] at hcell
      have hxs := HF.out _ (List.getElem_mem hlt)
      have C := fun W => implIsValidName xs[j] W (by simp only [maxLen]; omega)
      obtain ⟨X, hX⟩ : ∃ x, x = xs[j] := ⟨_, rfl⟩
      rw [← hX] at hcell C hxs
      have HX := Lib.hid hX
      have HW := Lib.hid hw
      have HCC := Lib.hid C
      clear C hX hw
      cases hq : validName X with
      | true =>
        rw [hq] at HCC
        have HQ := Lib.hid hq
        clear hq
        go_wp2_with fail
        refine (HCC.out _).mono ?_; rintro e w1 ⟨rfl, hb1⟩
        go_wp2_with fail
        go_roundw
        case rel => exact ⟨j + 1, by omega, by go_num, fun k hk hkj => if e : k = j then by subst e; rw [← HX.out]; exact HQ.out else HA.out k hk (by omega), HW.out.trans hb1⟩
        case measure => simp [intOf]; omega
      | false =>
        rw [hq] at HCC
        have HV : Hid (colsB xs = false) := by unfold Hid colsB; rw [all_false hlt (by rw [← HX.out]; exact hq)]; rfl
        clear hq
        go_wp2_with fail
        refine (HCC.out _).mono ?_; rintro e w1 ⟨rfl, hb1⟩
        go_wp2_with fail
        go_ret
        exact ⟨ret_bool HV.out.symm, HW.out.trans hb1⟩
    · have hv : colsB xs = (decide (1 ≤ xs.length) && (decide (xs.length ≤ 4) && distinctB xs)) := by unfold colsB; rw [all_true fun k hk => HA.out k hk (by omega)]; rfl
      have HV := Lib.hid hv
      have HW := Lib.hid hw
      have CD := fun W' (hW' : Later W W') => implAllDistinct _ xs W' (HST.out.later hW')
      have HD := Lib.hid CD
      clear hv CD HA
      by_cases h14 : 1 ≤ xs.length ∧ xs.length ≤ 4
      · have HI := Lib.hid (fun W => implIn (xs.length : Int) 1 4 true (by simp; omega) W)
        have HV2 : Hid (colsB xs = distinctB xs) := by unfold Hid; rw [HV.out]; simp [h14.1, h14.2]
        clear h14
        go_wp2_with fail
        refine (HI.out _).mono ?_; rintro e w1 ⟨rfl, rfl⟩
        go_wp2_with fail
        refine (HD.out _ HW.out).mono ?_; rintro e w1 ⟨rfl, hb1⟩
        go_wp2_with fail
        go_ret
        exact ⟨ret_bool HV2.out.symm, HW.out.trans hb1.later⟩
      · have HI := Lib.hid (fun W => implIn (xs.length : Int) 1 4 false (by simp; omega) W)
        have HV2 : Hid (colsB xs = false) := by unfold Hid; rw [HV.out]; simp; omega
        clear h14
        go_wp2_with fail
        refine (HI.out _).mono ?_; rintro e w1 ⟨rfl, rfl⟩
        go_wp2_with fail
        go_ret
        exact ⟨ret_bool HV2.out.symm, HW.out⟩
end Go.Proofs.Ytghemlokpfipoaa
