/-
  Valid values: columns, origins in order, tables: plain words; the walks of what has no loop in a loop. Valid values: l3Ascending, l3Table: the walks. Valid values: l3Table: the walk. Valid values: isTable of the program: the walk.
-/
import Derived.Test.YtghemlokpfipoaaYV2
import Derived.Test.YtghemlokpfipoaaYMA
import Derived.IntWalk
import Derived.Deep.QuietTactic
import Derived.BigQuiet
import Derived.StillTailTactics
import Derived.Deep.RegionHeld3
namespace Go.Proofs.Ytghemlokpfipoaa
open Go.ChangeShapes Go.WideShapes Go.ChangeAt Go.RowKit
set_option linter.unusedVariables false
set_option linter.unusedSimpArgs false
set_option maxRecDepth 100000

/-- An integer that is a number of the program's. -/
def numV (n : Int) : Bool := decide (-1000000000 ≤ n) && decide (n ≤ 1000000000)
def beforeB (a b : Org) : Bool := decide (a.1 < b.1) || (decide (a.1 = b.1) && decide (a.2 < b.2))
def ascAt (l : List Org) (i : Nat) : Bool := decide (0 ≤ (l.getD i (0, 0)).1) && (decide (0 ≤ (l.getD i (0, 0)).2) && (decide (i = 0) || beforeB (l.getD (i - 1) (0, 0)) (l.getD i (0, 0))))
def ascB (l : List Org) : Bool := (List.range l.length).all (ascAt l)
def colsB (c : List ByteArray) : Bool := c.all validName && (decide (1 ≤ c.length) && (decide (c.length ≤ 4) && distinctB c))
def rowB (m : Nat) (r : Rw) : Bool := decide (r.cells.length = m) && (ascB r.from_ && r.cells.all numV)
def tableB (c : List ByteArray) (r : List Rw) : Bool := colsB c && (decide (r.length ≤ 12) && r.all (rowB c.length))

theorem all_true {α : Type} {p : α → Bool} {l : List α} (h : ∀ k, (hk : k < l.length) → p l[k] = true) : l.all p = true := by
  rw [List.all_eq_true]
  intro x hx
  obtain ⟨k, hk, rfl⟩ := List.getElem_of_mem hx
  exact h k hk
theorem all_false {α : Type} {p : α → Bool} {l : List α} {k : Nat} (hk : k < l.length) (h : p l[k] = false) : l.all p = false := by
  rw [List.all_eq_false]
  exact ⟨l[k], List.getElem_mem hk, by simp [h]⟩
theorem asc_true {l : List Org} (h : ∀ k, k < l.length → ascAt l k = true) : ascB l = true := by
  unfold ascB
  rw [List.all_eq_true]
  intro x hx
  exact h x (by simpa using hx)
theorem asc_false {l : List Org} {k : Nat} (hk : k < l.length) (h : ascAt l k = false) : ascB l = false := by
  unfold ascB
  rw [List.all_eq_false]
  exact ⟨k, by simpa using hk, by simp [h]⟩
theorem getD_at {l : List Org} {k : Nat} (hk : k < l.length) : l.getD k (0, 0) = l[k] := by simp [List.getD, hk]


theorem specIn (x lo hi : Int) (q : Bool) (hq : (decide (lo ≤ x) && decide (x ≤ hi)) = q) (W : World) : Calls Try.prog 99 #[.int .i64 x, .int .i64 lo, .int .i64 hi] W fun r w' => r = .returned (.bool q) ∧ W = w' := by
  have HQ := Lib.hid hq
  clear hq
  go_enter Try.func99, Try.ntmps99
  go_wp2
  all_goals
    go_ret
    exact ⟨ret_bool (by rw [← HQ.out]; simp <;> omega), rfl⟩
theorem specNumV (n : Int) (q : Bool) (hq : numV n = q) (W : World) : Calls Try.prog 95 #[.int .i64 n] W fun r w' => r = .returned (.bool q) ∧ W = w' := by
  have C := specIn n (-1000000000) 1000000000 q hq
  go_enter Try.func95, Try.ntmps95
  go_wp2_with fail
  refine (C _).mono ?_; rintro e w1 ⟨rfl, rfl⟩
  go_wp2_with fail
  go_ret
  exact ⟨rfl, rfl⟩
theorem specBefore (a0 a1 b0 b1 : Int) (q : Bool) (hq : beforeB (a0, a1) (b0, b1) = q) (W : World) : Calls Try.prog 149 #[.agg #[.int .i64 a0, .int .i64 a1], .agg #[.int .i64 b0, .int .i64 b1]] W fun r w' => r = .returned (.bool q) ∧ Later W w' := by
  have HQ := Lib.hid hq
  clear hq
  by_cases h1 : a0 < b0
  · go_enter Try.func149, Try.ntmps149
    go_wp2
    go_ret
    exact ⟨ret_bool (by rw [← HQ.out]; simp [beforeB, h1]), ((Later.rfl' _).alloc _).alloc _⟩
  · by_cases h2 : a0 = b0
    · subst h2
      by_cases h3 : a1 < b1
      · go_enter Try.func149, Try.ntmps149
        go_wp2
        go_ret
        exact ⟨ret_bool (by rw [← HQ.out]; simp [beforeB, h3]), ((Later.rfl' _).alloc _).alloc _⟩
      · go_enter Try.func149, Try.ntmps149
        go_wp2
        go_ret
        exact ⟨ret_bool (by rw [← HQ.out]; simp [beforeB, h3]), ((Later.rfl' _).alloc _).alloc _⟩
    · have h2' : (a0 == b0) = false := by simpa using h2
      have HH := Lib.hid h2
      clear h2
      go_enter Try.func149, Try.ntmps149
      go_wp2
      go_ret
      exact ⟨ret_bool (by rw [← HQ.out]; simp [beforeB, h1, HH.out]), ((Later.rfl' _).alloc _).alloc _⟩

theorem implIn (x lo hi : Int) (q : Bool) (hq : (decide (lo ≤ x) && decide (x ≤ hi)) = q) (W : World) : Calls Try.prog 68 #[.int .i64 x, .int .i64 lo, .int .i64 hi] W fun r w' => r = .returned (.bool q) ∧ W = w' := by
  have HQ := Lib.hid hq
  clear hq
  go_enter Try.func68, Try.ntmps68
  go_wp2
  all_goals
    go_ret
    exact ⟨ret_bool (by rw [← HQ.out]; simp <;> omega), rfl⟩
theorem implNumV (n : Int) (q : Bool) (hq : numV n = q) (W : World) : Calls Try.prog 66 #[.int .i64 n] W fun r w' => r = .returned (.bool q) ∧ W = w' := by
  have C := implIn n (-1000000000) 1000000000 q hq
  go_enter Try.func66, Try.ntmps66
  go_wp2_with fail
  refine (C _).mono ?_; rintro e w1 ⟨rfl, rfl⟩
  go_wp2_with fail
  go_ret
  exact ⟨rfl, rfl⟩
theorem implBefore (a0 a1 b0 b1 : Int) (q : Bool) (hq : beforeB (a0, a1) (b0, b1) = q) (W : World) : Calls Try.prog 113 #[.agg #[.int .i64 a0, .int .i64 a1], .agg #[.int .i64 b0, .int .i64 b1]] W fun r w' => r = .returned (.bool q) ∧ Later W w' := by
  have HQ := Lib.hid hq
  clear hq
  by_cases h1 : a0 < b0
  · go_enter Try.func113, Try.ntmps113
    go_wp2
    go_ret
    exact ⟨ret_bool (by rw [← HQ.out]; simp [beforeB, h1]), ((Later.rfl' _).alloc _).alloc _⟩
  · by_cases h2 : a0 = b0
    · subst h2
      by_cases h3 : a1 < b1
      · go_enter Try.func113, Try.ntmps113
        go_wp2
        go_ret
        exact ⟨ret_bool (by rw [← HQ.out]; simp [beforeB, h3]), ((Later.rfl' _).alloc _).alloc _⟩
      · go_enter Try.func113, Try.ntmps113
        go_wp2
        go_ret
        exact ⟨ret_bool (by rw [← HQ.out]; simp [beforeB, h3]), ((Later.rfl' _).alloc _).alloc _⟩
    · have h2' : (a0 == b0) = false := by simpa using h2
      have HH := Lib.hid h2
      clear h2
      go_enter Try.func113, Try.ntmps113
      go_wp2
      go_ret
      exact ⟨ret_bool (by rw [← HQ.out]; simp [beforeB, h1, HH.out]), ((Later.rfl' _).alloc _).alloc _⟩

theorem specColumns (v : Value) (xs : List ByteArray) (W : World) (h : Strs W v xs) : Calls Try.prog 143 #[v] W fun r w' => r = .returned (.bool (colsB xs)) ∧ Later W w' := by
  have HST := Lib.hid h
  obtain ⟨⟨hm, hf⟩, A, c, rfl, hlc, hcm, hc⟩ := h
  have HF := Lib.hid hf; clear hf
  have HC := Lib.hid hc; clear hc
  go_enter Try.func143, Try.ntmps143
  go_wp2_with fail
  go_loopw [3] (fun i wr => ∃ j : Nat, j ≤ xs.length ∧ i = .int .i64 j ∧ (∀ k, (hk : k < xs.length) → k < j → validName xs[k] = true) ∧ Later W wr) (fun i _ => xs.length - (intOf i).toNat)
  case atStart => exact ⟨0, Nat.zero_le _, rfl, fun k _ h => absurd h (by omega), Later.rfl' _⟩
  case round =>
    obtain ⟨j, hj, rfl, hall, hw⟩ := hrel
    have HA := Lib.hid hall
    clear hall
    by_cases hlt : j < xs.length
    · obtain ⟨b, off, rfl, hb, hcell⟩ := (HC.out.later hw).at_ (k := j) (by simpa using hlt)
      simp only [List.getElem_map] at hcell
      have hxs := HF.out _ (List.getElem_mem hlt)
      have C := fun W => specIsValidName xs[j] W (by simp only [maxLen]; omega)
      obtain ⟨X, hX⟩ : ∃ x, x = xs[j] := ⟨_, rfl⟩
      rw [← hX] at hcell C hxs
      have HX := Lib.hid hX
      have HW := Lib.hid hw
      have HCC := Lib.hid C
      clear C hX hw
      cases hq : validName X with
      | true =>
        rw [hq] at HCC
        have HQ := Lib.hid hq
        clear hq
        go_wp2_with fail
        refine (HCC.out _).mono ?_; rintro e w1 ⟨rfl, hb1⟩
        go_wp2_with fail
        go_roundw
        case rel => exact ⟨j + 1, by omega, by go_num, fun k hk hkj => if e : k = j then by subst e; rw [← HX.out]; exact HQ.out else HA.out k hk (by omega), HW.out.trans hb1⟩
        case measure => simp [intOf]; omega
      | false =>
        rw [hq] at HCC
        have HV : Hid (colsB xs = false) := by unfold Hid colsB; rw [all_false hlt (by rw [← HX.out]; exact hq)]; rfl
        clear hq
        go_wp2_with fail
        refine (HCC.out _).mono ?_; rintro e w1 ⟨rfl, hb1⟩
        go_wp2_with fail
        go_ret
        exact ⟨ret_bool HV.out.symm, HW.out.trans hb1⟩
    · have hv : colsB xs = (decide (1 ≤ xs.length) && (decide (xs.length ≤ 4) && distinctB xs)) := by unfold colsB; rw [all_true fun k hk => HA.out k hk (by omega)]; rfl
      have HV := Lib.hid hv
      have HW := Lib.hid hw
      have CD := fun W' (hW' : Later W W') => specAllDistinct _ xs W' (HST.out.later hW')
      have HD := Lib.hid CD
      clear hv CD HA
      by_cases h14 : 1 ≤ xs.length ∧ xs.length ≤ 4
      · have HI := Lib.hid (fun W => specIn (xs.length : Int) 1 4 true (by simp; omega) W)
        have HV2 : Hid (colsB xs = distinctB xs) := by unfold Hid; rw [HV.out]; simp [h14.1, h14.2]
        clear h14
        go_wp2_with fail
        refine (HI.out _).mono ?_; rintro e w1 ⟨rfl, rfl⟩
        go_wp2_with fail
        refine (HD.out _ HW.out).mono ?_; rintro e w1 ⟨rfl, hb1⟩
        go_wp2_with fail
        go_ret
        exact ⟨ret_bool HV2.out.symm, HW.out.trans hb1.later⟩
      · have HI := Lib.hid (fun W => specIn (xs.length : Int) 1 4 false (by simp; omega) W)
        have HV2 : Hid (colsB xs = false) := by unfold Hid; rw [HV.out]; simp; omega
        clear h14
        go_wp2_with fail
        refine (HI.out _).mono ?_; rintro e w1 ⟨rfl, rfl⟩
        go_wp2_with fail
        go_ret
        exact ⟨ret_bool HV2.out.symm, HW.out⟩

theorem implColumns (v : Value) (xs : List ByteArray) (W : World) (h : Strs W v xs) : Calls Try.prog 133 #[v] W fun r w' => r = .returned (.bool (colsB xs)) ∧ Later W w' := by
  have HST := Lib.hid h
  obtain ⟨⟨hm, hf⟩, A, c, rfl, hlc, hcm, hc⟩ := h
  have HF := Lib.hid hf; clear hf
  have HC := Lib.hid hc; clear hc
  go_enter Try.func133, Try.ntmps133
  go_wp2_with fail
  go_loopw [7] (fun i wr => ∃ j : Nat, j ≤ xs.length ∧ i = .int .i64 j ∧ (∀ k, (hk : k < xs.length) → k < j → validName xs[k] = true) ∧ Later W wr) (fun i _ => xs.length - (intOf i).toNat)
  case atStart => exact ⟨0, Nat.zero_le _, rfl, fun k _ h => absurd h (by omega), Later.rfl' _⟩
  case round =>
    obtain ⟨j, hj, rfl, hall, hw⟩ := hrel
    have HA := Lib.hid hall
    clear hall
    by_cases hlt : j < xs.length
    · obtain ⟨b, off, rfl, hb, hcell⟩ := (HC.out.later hw).at_ (k := j) (by simpa using hlt)
      simp only [List.getElem_map] at hcell
      have hxs := HF.out _ (List.getElem_mem hlt)
      have C := fun W => implIsValidName xs[j] W (by simp only [maxLen]; omega)
      obtain ⟨X, hX⟩ : ∃ x, x = xs[j] := ⟨_, rfl⟩
      rw [← hX] at hcell C hxs
      have HX := Lib.hid hX
      have HW := Lib.hid hw
      have HCC := Lib.hid C
      clear C hX hw
      cases hq : validName X with
      | true =>
        rw [hq] at HCC
        have HQ := Lib.hid hq
        clear hq
        go_wp2_with fail
        refine (HCC.out _).mono ?_; rintro e w1 ⟨rfl, hb1⟩
        go_wp2_with fail
        go_roundw
        case rel => exact ⟨j + 1, by omega, by go_num, fun k hk hkj => if e : k = j then by subst e; rw [← HX.out]; exact HQ.out else HA.out k hk (by omega), HW.out.trans hb1⟩
        case measure => simp [intOf]; omega
      | false =>
        rw [hq] at HCC
        have HV : Hid (colsB xs = false) := by unfold Hid colsB; rw [all_false hlt (by rw [← HX.out]; exact hq)]; rfl
        clear hq
        go_wp2_with fail
        refine (HCC.out _).mono ?_; rintro e w1 ⟨rfl, hb1⟩
        go_wp2_with fail
        go_ret
        exact ⟨ret_bool HV.out.symm, HW.out.trans hb1⟩
    · have hv : colsB xs = (decide (1 ≤ xs.length) && (decide (xs.length ≤ 4) && distinctB xs)) := by unfold colsB; rw [all_true fun k hk => HA.out k hk (by omega)]; rfl
      have HV := Lib.hid hv
      have HW := Lib.hid hw
      have CD := fun W' (hW' : Later W W') => implAllDistinct _ xs W' (HST.out.later hW')
      have HD := Lib.hid CD
      clear hv CD HA
      by_cases h14 : 1 ≤ xs.length ∧ xs.length ≤ 4
      · have HI := Lib.hid (fun W => implIn (xs.length : Int) 1 4 true (by simp; omega) W)
        have HV2 : Hid (colsB xs = distinctB xs) := by unfold Hid; rw [HV.out]; simp [h14.1, h14.2]
        clear h14
        go_wp2_with fail
        refine (HI.out _).mono ?_; rintro e w1 ⟨rfl, rfl⟩
        go_wp2_with fail
        refine (HD.out _ HW.out).mono ?_; rintro e w1 ⟨rfl, hb1⟩
        go_wp2_with fail
        go_ret
        exact ⟨ret_bool HV2.out.symm, HW.out.trans hb1.later⟩
      · have HI := Lib.hid (fun W => implIn (xs.length : Int) 1 4 false (by simp; omega) W)
        have HV2 : Hid (colsB xs = false) := by unfold Hid; rw [HV.out]; simp; omega
        clear h14
        go_wp2_with fail
        refine (HI.out _).mono ?_; rintro e w1 ⟨rfl, rfl⟩
        go_wp2_with fail
        go_ret
        exact ⟨ret_bool HV2.out.symm, HW.out⟩
end Go.Proofs.Ytghemlokpfipoaa
namespace Go.Proofs.Ytghemlokpfipoaa
open Go.ChangeShapes Go.WideShapes Go.ChangeAt Go.RowKit
set_option linter.unusedVariables false
set_option linter.unusedSimpArgs false
set_option maxRecDepth 100000

set_option maxHeartbeats 1000000 in
theorem specAscending (l : List Org) (W : World) (S : Nat → Prop) (v : Value) (h : SlAt W S 2 encO l v) : Calls Try.prog 144 #[v] W fun r w' => r = .returned (.bool (ascB l)) ∧ Later W w' := by
  obtain ⟨A, c, rfl, hlc, hcm⟩ := sl_parts h
  have HE := Lib.hid h; clear h
  go_enter Try.func144, Try.ntmps144
  go_wp2_with fail
  go_loopw [3] (fun i wr => ∃ j : Nat, j ≤ l.length ∧ i = .int .i64 j ∧ (∀ k, k < j → ascAt l k = true) ∧ Later W wr) (fun i _ => l.length - (intOf i).toNat)
  case atStart => exact ⟨0, Nat.zero_le _, rfl, fun k h => absurd h (by omega), Later.rfl' _⟩
  case round =>
    obtain ⟨j, hj, rfl, hall, hw⟩ := hrel
    have HA := Lib.hid hall
    have HW := Lib.hid hw
    by_cases hlt : j < l.length
    · obtain ⟨b, off, rfl, hb, _, e0, e1, _⟩ := (HE.out.later hw).origAt hlt
      have hg := getD_at hlt
      obtain ⟨⟨x0, x1⟩, hX⟩ : ∃ x, x = l[j] := ⟨_, rfl⟩
      rw [← hX] at e0 e1 hg
      simp only at e0 e1
      have hki : (j : Int) < (l.length : Int) := by omega
      by_cases h0 : x0 < 0
      · have HV : Hid (ascB l = false) := asc_false hlt (by unfold ascAt; rw [hg]; simp; omega)
        clear hg hX hall hw
        go_wp2
        go_quiet (fail)
        go_wp2
        go_ret
        exact ⟨ret_bool HV.out.symm, HW.out.trans (Later.drewN _ _)⟩
      have h0' : 0 ≤ x0 := by omega
      have d0 : decide (x0 < 0) = false := by simpa using h0'
      by_cases h1 : x1 < 0
      · have HV : Hid (ascB l = false) := asc_false hlt (by unfold ascAt; rw [hg]; simp; omega)
        clear hg hX hall hw
        go_wp2
        go_quiet (fail)
        go_wp2
        go_ret
        exact ⟨ret_bool HV.out.symm, HW.out.trans (Later.drewN _ _)⟩
      have h1' : 0 ≤ x1 := by omega
      have d1 : decide (x1 < 0) = false := by simpa using h1'
      rcases Nat.eq_zero_or_pos j with hz | hz
      · have HQ : Hid (ascAt l j = true) := by unfold Hid ascAt; rw [hg]; simp [hz]; omega
        have d3 : decide ((0 : Int) < (j : Int)) = false := by simp; omega
        have d4 : decide (0 < j) = false := by simp; omega
        have d5 : (j : Int) ≤ 0 := by omega
        clear hg hX hall hw h0 h1 hz
        go_wp2
        go_quiet (fail)
        go_wp2
        go_roundw
        case rel => exact ⟨j + 1, by omega, by go_num, fun k hk => if e : k = j then by subst e; exact HQ.out else HA.out k (by omega), HW.out.trans (Later.drewN _ _)⟩
        case measure => simp [intOf]; omega
      · obtain ⟨j', hj'⟩ : ∃ j', j = j' + 1 := ⟨j - 1, by omega⟩
        have hlt0 : j' < l.length := by omega
        obtain ⟨b', off', eg, hb', _, k0, k1, _⟩ := (HE.out.later hw).origAt hlt0
        simp only [Option.some.injEq, Addr.mk.injEq, and_true] at eg
        obtain ⟨rfl, rfl⟩ := eg
        have hg' := getD_at hlt0
        obtain ⟨⟨z0, z1⟩, hZ⟩ : ∃ x, x = l[j'] := ⟨_, rfl⟩
        rw [← hZ] at k0 k1 hg'
        simp only at k0 k1
        have has : ascAt l j = beforeB (z0, z1) (x0, x1) := by
          have e : j - 1 = j' := by omega
          unfold ascAt; rw [hg, e, hg']; simp [h0', h1']; intro h; omega
        have CB := fun W => specBefore z0 z1 x0 x1 _ rfl W
        obtain ⟨q, hq⟩ : ∃ q, q = beforeB (z0, z1) (x0, x1) := ⟨_, rfl⟩
        rw [← hq] at has
        simp only [← hq] at CB
        have HC := Lib.hid CB
        have HAS := Lib.hid has
        have hj1 : (j' : Int) < (l.length : Int) := by omega
        have hsub : IntKind.i64.wrap ((j : Int) - 1) = (j' : Int) := by rw [show (j : Int) - 1 = j' by omega]; exact IntWalk.i64_in _ (by omega)
        have hsub3 : IntKind.i64.wrap (j' : Int) = (j' : Int) := IntWalk.i64_in _ (by omega)
        have hj0 : (0 : Int) ≤ (j' : Int) := by omega
        have d3 : decide ((0 : Int) < (j : Int)) = true := by simp; omega
        clear hg hg' hX hZ hall hw h0 h1 hq has CB hj'
        cases q with
        | true =>
          go_wp2_with fail
          go_region_held3 (fun w' => w'.cell? ⟨b, off + j' * 2, none⟩ = some (.int .i64 z0) ∧ w'.cell? ⟨b, off + j' * 2 + 1, none⟩ = some (.int .i64 z1) ∧ w'.cell? ⟨b, off + j * 2, none⟩ = some (.int .i64 x0) ∧ w'.cell? ⟨b, off + j * 2 + 1, none⟩ = some (.int .i64 x1))
            (first | exact ⟨k0, k1, e0, e1⟩ | exact ⟨kept_cell hb1 k0, kept_cell hb1 k1, kept_cell hb1 e0, kept_cell hb1 e1⟩)
            (first | (go_at_call 149; refine (HC.out _).mono ?_; rintro r w1 ⟨rfl, hb1⟩))
          go_wp2_with fail
          go_roundw
          case rel => exact ⟨j + 1, by omega, by go_num, fun k hk => if e : k = j then by subst e; exact HAS.out else HA.out k (by omega), HW.out.trans ((Later.rfl' _).drew.trans hb1)⟩
          case measure => simp [intOf]; omega
        | false =>
          have HV : Hid (ascB l = false) := asc_false hlt HAS.out
          go_wp2_with fail
          go_region_held3 (fun w' => w'.cell? ⟨b, off + j' * 2, none⟩ = some (.int .i64 z0) ∧ w'.cell? ⟨b, off + j' * 2 + 1, none⟩ = some (.int .i64 z1) ∧ w'.cell? ⟨b, off + j * 2, none⟩ = some (.int .i64 x0) ∧ w'.cell? ⟨b, off + j * 2 + 1, none⟩ = some (.int .i64 x1))
            (first | exact ⟨k0, k1, e0, e1⟩ | exact ⟨kept_cell hb1 k0, kept_cell hb1 k1, kept_cell hb1 e0, kept_cell hb1 e1⟩)
            (first | (go_at_call 149; refine (HC.out _).mono ?_; rintro r w1 ⟨rfl, hb1⟩))
          go_wp2_with fail
          go_ret
          exact ⟨ret_bool HV.out.symm, HW.out.trans ((Later.rfl' _).drew.trans hb1)⟩
    · have HV : Hid (ascB l = true) := asc_true fun k hk => HA.out k (by omega)
      clear hall hw
      go_wp2
      go_ret
      exact ⟨ret_bool HV.out.symm, HW.out⟩
end Go.Proofs.Ytghemlokpfipoaa
namespace Go.Proofs.Ytghemlokpfipoaa
open Go.ChangeShapes Go.WideShapes Go.ChangeAt Go.RowKit
set_option linter.unusedVariables false
set_option linter.unusedSimpArgs false
set_option maxRecDepth 100000


set_option maxHeartbeats 2000000 in
theorem specTable (k n s : Int) (t : ByteArray) (l : List Vl) (cl : List ByteArray) (r : List Rw) (W : World) (S : Nat → Prop) (cs : List Value) (h : Ats W S (encV (.mk k n s t l cl r)) cs) : Calls Try.prog 98 #[.agg cs.toArray] W fun e w' => e = .returned (.bool (tableB cl r)) ∧ Later W w' := by
  obtain ⟨A1, c1, A2, c2, A3, c3, rfl, hb4, ⟨p1, q1⟩, ⟨p2, q2⟩, ⟨p3, q3⟩, g1, g2, g3⟩ := h.val
  have CC := fun W' (hW' : Later W W') => specColumns _ cl W' (sl_strs (g2.later hW'))
  have HR := Lib.hid g3
  have HCC := Lib.hid CC
  clear h g1 g2 g3 CC hb4
  cases hcb : colsB cl with
  | false =>
    rw [hcb] at HCC
    have HV : Hid (tableB cl r = false) := by unfold Hid tableB; rw [hcb]; rfl
    clear hcb
    go_enter Try.func98, Try.ntmps98
    go_wp2_with fail
    refine (HCC.out _ ((Later.rfl' _).alloc _)).mono ?_; rintro e w1 ⟨rfl, hb1⟩
    go_wp2_with fail
    go_ret
    exact ⟨ret_bool HV.out.symm, ((Later.rfl' _).alloc _).trans hb1⟩
  | true =>
  rw [hcb] at HCC
  by_cases h12 : r.length ≤ 12
  rotate_left
  · have HV : Hid (tableB cl r = false) := by unfold Hid tableB; simp [h12]
    have h12' : 12 < r.length := by omega
    clear hcb h12
    go_enter Try.func98, Try.ntmps98
    go_wp2_with fail
    refine (HCC.out _ ((Later.rfl' _).alloc _)).mono ?_; rintro e w1 ⟨rfl, hb1⟩
    have a6 := boxN hb1 (j := 6) rfl
    have HL := Lib.hid (((Later.rfl' _).alloc _).trans hb1)
    clear hb1
    go_wp2_with fail
    go_ret
    exact ⟨ret_bool HV.out.symm, HL.out⟩
  have HV : Hid (tableB cl r = r.all (rowB cl.length)) := by unfold Hid tableB; simp [hcb, h12]
  clear hcb
  go_enter Try.func98, Try.ntmps98
  go_wp2_with fail
  refine (HCC.out _ ((Later.rfl' _).alloc _)).mono ?_; rintro e w1 ⟨rfl, hb1⟩
  have a6 := boxN hb1 (j := 6) rfl
  have HL1 := Lib.hid hb1
  clear hb1
  go_wp2_with fail
  go_loopw [3] (fun i wr => ∃ j : Nat, j ≤ r.length ∧ i = .int .i64 j ∧ (∀ k, (hk : k < r.length) → k < j → rowB cl.length r[k] = true) ∧ Later (W.alloc (.cells #[.int .i64 k, .int .i64 n, .int .i64 s, .string t, .slice A1 l.length c1, .slice A2 cl.length c2, .slice A3 r.length c3] 28)) wr) (fun i _ => r.length - (intOf i).toNat)
  case atStart => exact ⟨0, Nat.zero_le _, rfl, fun k _ h => absurd h (by omega), HL1.out⟩
  case round =>
    clear HL1 a6
    obtain ⟨j, hj, rfl, hall, hw⟩ := hrel
    have a5 := boxN hw (j := 5) rfl
    have a6 := boxN hw (j := 6) rfl
    have HA := Lib.hid hall
    have HW := Lib.hid hw
    have HLW := Lib.hid (((Later.rfl' W).alloc _).trans hw)
    by_cases hlt : j < r.length
    · obtain ⟨b, off, B1, d1, B2, d2, rfl, hb, _, hx, e0, e1⟩ := (HR.out.later HLW.out).rowAt hlt
      obtain ⟨_, _, _, _, ee, ⟨y1, y2⟩, ⟨y3, y4⟩, u1, u2⟩ := hx.row
      simp only [List.cons.injEq, Value.slice.injEq, true_and, and_true] at ee
      obtain ⟨⟨rfl, rfl⟩, rfl, rfl⟩ := ee
      have CA := fun W' (hW' : Later wr W') => specAscending _ W' S _ (u2.later hW')
      have hz : W.heap.size < wr.heap.size := by have := hw.size; simp only [World.size_alloc] at this; omega
      obtain ⟨X, hX⟩ : ∃ x, x = r[j] := ⟨_, rfl⟩
      rw [← hX] at e0 e1 CA u1 y1 y3
      have HX := Lib.hid hX
      have HCA := Lib.hid CA
      have HI := Lib.hid u1
      clear hx u1 u2 hX CA hall hw
      by_cases hn : X.cells.length = cl.length
      rotate_left
      · have hn' : ((X.cells.length : Int) != (cl.length : Int)) = true := by simp; omega
        have HF : Hid (tableB cl r = false) := by unfold Hid; rw [HV.out]; exact all_false hlt (by rw [← HX.out]; simp [rowB, hn])
        clear hn
        go_wp2_with fail
        go_ret
        exact ⟨ret_bool HF.out.symm, HLW.out.alloc _⟩
      have hn' : ((X.cells.length : Int) != (cl.length : Int)) = false := by simp [hn]
      have HN := Lib.hid hn
      clear hn
      cases hasc : ascB X.from_ with
      | false =>
        rw [hasc] at HCA
        have HF : Hid (tableB cl r = false) := by unfold Hid; rw [HV.out]; exact all_false hlt (by rw [← HX.out]; simp [rowB, hasc])
        clear hasc
        go_wp2_with fail
        refine (HCA.out _ ((Later.rfl' _).alloc _)).mono ?_; rintro e w2 ⟨rfl, hb2⟩
        go_wp2_with fail
        go_ret
        exact ⟨ret_bool HF.out.symm, (HLW.out.alloc _).trans hb2⟩
      | true =>
      rw [hasc] at HCA
      have HS := Lib.hid hasc
      clear hasc
      go_wp2_with fail
      refine (HCA.out _ ((Later.rfl' _).alloc _)).mono ?_; rintro e w2 ⟨rfl, hb2⟩
      have f0 := boxN hb2 (j := 0) rfl
      have HB2 := Lib.hid hb2
      clear hb2
      go_wp2_with fail
      go_loopw [5] (fun i wi => ∃ m : Nat, m ≤ X.cells.length ∧ i = .int .i64 m ∧ (∀ k, (hk : k < X.cells.length) → k < m → numV X.cells[k] = true) ∧ Later (wr.alloc (.cells #[.slice B1 X.cells.length d1, .slice B2 X.from_.length d2] 79)) wi) (fun i _ => X.cells.length - (intOf i).toNat)
      case atStart => exact ⟨0, Nat.zero_le _, rfl, fun k _ h => absurd h (by omega), HB2.out⟩
      case round =>
        clear HB2 f0
        obtain ⟨m, hm, rfl, hall2, hw2⟩ := hrel
        have f0 := boxN hw2 (j := 0) rfl
        have HA2 := Lib.hid hall2
        have HW2 := Lib.hid hw2
        by_cases hlt2 : m < X.cells.length
        · obtain ⟨b', off', rfl, hb', _, g0, _⟩ := (HI.out.later (((Later.rfl' _).alloc _).trans hw2)).intAt hlt2
          have CN := fun W => specNumV X.cells[m] _ rfl W
          obtain ⟨Y, hY⟩ : ∃ y, y = X.cells[m] := ⟨_, rfl⟩
          rw [← hY] at g0
          simp only [← hY] at CN
          have HY := Lib.hid hY
          have HCN := Lib.hid CN
          clear hY CN hall2 hw2
          cases hq : numV Y with
          | true =>
            rw [hq] at HCN
            have HQ := Lib.hid hq
            clear hq
            go_wp2_with fail
            refine (HCN.out _).mono ?_; rintro e w3 ⟨rfl, rfl⟩
            go_wp2_with fail
            go_roundw
            case rel => exact ⟨m + 1, by omega, by go_num, fun k hk hkj => if e : k = m then by subst e; rw [← HY.out]; exact HQ.out else HA2.out k hk (by omega), HW2.out⟩
            case measure => simp [intOf]; omega
          | false =>
            rw [hq] at HCN
            have HF : Hid (tableB cl r = false) := by
              unfold Hid
              rw [HV.out]
              refine all_false hlt ?_
              rw [← HX.out]
              unfold rowB
              rw [all_false hlt2 (by rw [← HY.out]; exact hq)]
              simp
            clear hq
            go_wp2_with fail
            refine (HCN.out _).mono ?_; rintro e w3 ⟨rfl, rfl⟩
            go_wp2_with fail
            go_ret
            exact ⟨ret_bool HF.out.symm, (HLW.out.alloc _).trans HW2.out⟩
        · have HQ : Hid (rowB cl.length X = true) := by
            unfold Hid rowB
            rw [all_true fun k hk => HA2.out k hk (by omega), HS.out, HN.out]
            simp
          clear hall2 hw2 HA2
          go_wp2_with fail
          go_roundw
          case rel => exact ⟨j + 1, by omega, by go_num, fun k hk hkj => if e : k = j then by subst e; rw [← HX.out]; exact HQ.out else HA.out k hk (by omega), HW.out.trans (((Later.rfl' _).alloc _).trans HW2.out)⟩
          case measure => simp [intOf]; omega
    · have HF : Hid (tableB cl r = true) := by unfold Hid; rw [HV.out]; exact all_true fun k hk => HA.out k hk (by omega)
      clear hall hw
      go_wp2_with fail
      go_ret
      exact ⟨ret_bool HF.out.symm, HLW.out⟩
end Go.Proofs.Ytghemlokpfipoaa
namespace Go.Proofs.Ytghemlokpfipoaa
open Go.ChangeShapes Go.WideShapes Go.ChangeAt Go.RowKit
set_option linter.unusedVariables false
set_option linter.unusedSimpArgs false
set_option maxRecDepth 100000


set_option maxHeartbeats 4000000 in
theorem implTable (k n s : Int) (t : ByteArray) (l : List Vl) (cl : List ByteArray) (r : List Rw) (W : World) (S : Nat → Prop) (cs : List Value) (h : Ats W S (encV (.mk k n s t l cl r)) cs) : Calls Try.prog 69 #[.agg cs.toArray] W fun e w' => e = .returned (.bool (tableB cl r)) ∧ Later W w' := by
  obtain ⟨A1, c1, A2, c2, A3, c3, rfl, hb4, ⟨p1, q1⟩, ⟨p2, q2⟩, ⟨p3, q3⟩, g1, g2, g3⟩ := h.val
  have CC := fun W' (hW' : Later W W') => implColumns _ cl W' (sl_strs (g2.later hW'))
  have HR := Lib.hid g3
  have HCC := Lib.hid CC
  clear h g1 g2 g3 CC hb4
  cases hcb : colsB cl with
  | false =>
    rw [hcb] at HCC
    have HV : Hid (tableB cl r = false) := by unfold Hid tableB; rw [hcb]; rfl
    clear hcb
    go_enter Try.func69, Try.ntmps69
    go_wp2_with fail
    refine (HCC.out _ ((Later.rfl' _).alloc _)).mono ?_; rintro e w1 ⟨rfl, hb1⟩
    go_wp2_with fail
    go_ret
    exact ⟨ret_bool HV.out.symm, ((Later.rfl' _).alloc _).trans hb1⟩
  | true =>
  rw [hcb] at HCC
  by_cases h12 : r.length ≤ 12
  rotate_left
  · have HV : Hid (tableB cl r = false) := by unfold Hid tableB; simp [h12]
    have h12' : 12 < r.length := by omega
    clear hcb h12
    go_enter Try.func69, Try.ntmps69
    go_wp2_with fail
    refine (HCC.out _ ((Later.rfl' _).alloc _)).mono ?_; rintro e w1 ⟨rfl, hb1⟩
    have a6 := boxN hb1 (j := 6) rfl
    have HL := Lib.hid (((Later.rfl' _).alloc _).trans hb1)
    clear hb1
    go_wp2_with fail
    go_ret
    exact ⟨ret_bool HV.out.symm, HL.out⟩
  have HV : Hid (tableB cl r = r.all (rowB cl.length)) := by unfold Hid tableB; simp [hcb, h12]
  clear hcb
  go_enter Try.func69, Try.ntmps69
  go_wp2_with fail
  refine (HCC.out _ ((Later.rfl' _).alloc _)).mono ?_; rintro e w1 ⟨rfl, hb1⟩
  have a6 := boxN hb1 (j := 6) rfl
  have HL1 := Lib.hid hb1
  clear hb1
  go_wp2_with fail
  go_loopw [22] (fun i wr => ∃ j : Nat, j ≤ r.length ∧ i = .int .i64 j ∧ (∀ k, (hk : k < r.length) → k < j → rowB cl.length r[k] = true) ∧ Later (W.alloc (.cells #[.int .i64 k, .int .i64 n, .int .i64 s, .string t, .slice A1 l.length c1, .slice A2 cl.length c2, .slice A3 r.length c3] 28)) wr) (fun i _ => r.length - (intOf i).toNat)
  case atStart => exact ⟨0, Nat.zero_le _, rfl, fun k _ h => absurd h (by omega), HL1.out⟩
  case round =>
    clear HL1 a6
    obtain ⟨wo, rfl⟩ : ∃ wo, wo = wr := ⟨_, rfl⟩
    obtain ⟨j, hj, rfl, hall, hw⟩ := hrel
    have a5 := boxN hw (j := 5) rfl
    have HA := Lib.hid hall
    have HW := Lib.hid hw
    have HLW := Lib.hid (((Later.rfl' W).alloc _).trans hw)
    by_cases hlt : j < r.length
    · obtain ⟨b, off, B1, d1, B2, d2, rfl, hb, _, hx, e0, e1⟩ := (HR.out.later HLW.out).rowAt hlt
      obtain ⟨_, _, _, _, ee, ⟨y1, y2⟩, ⟨y3, y4⟩, u1, u2⟩ := hx.row
      simp only [List.cons.injEq, Value.slice.injEq, true_and, and_true] at ee
      obtain ⟨⟨rfl, rfl⟩, rfl, rfl⟩ := ee
      have hz : W.heap.size < wo.heap.size := by have := hw.size; simp only [World.size_alloc] at this; omega
      obtain ⟨X, hX⟩ : ∃ x, x = r[j] := ⟨_, rfl⟩
      rw [← hX] at e0 e1 u1 u2 y1 y3
      have HX := Lib.hid hX
      have HI := Lib.hid u1
      have HO := Lib.hid u2
      clear hx u1 u2 hX hall hw
      by_cases hn : X.cells.length = cl.length
      rotate_left
      · have hn' : ((X.cells.length : Int) != (cl.length : Int)) = true := by simp; omega
        have HF : Hid (tableB cl r = false) := by unfold Hid; rw [HV.out]; exact all_false hlt (by rw [← HX.out]; simp [rowB, hn])
        clear hn
        go_wp2_with fail
        go_ret
        exact ⟨ret_bool HF.out.symm, HLW.out.alloc _⟩
      have hn' : ((X.cells.length : Int) != (cl.length : Int)) = false := by simp [hn]
      have HN := Lib.hid hn
      clear hn
      go_wp2_with fail
      go_loopw [36] (fun i wi => ∃ m : Nat, m ≤ X.cells.length ∧ i = .int .i64 m ∧ (∀ k, (hk : k < X.cells.length) → k < m → numV X.cells[k] = true) ∧ Later (wo.alloc (.cells #[.slice B1 X.cells.length d1, .slice B2 X.from_.length d2] 79)) wi) (fun i _ => X.cells.length - (intOf i).toNat)
      case atStart => exact ⟨0, Nat.zero_le _, rfl, fun k _ h => absurd h (by omega), Later.rfl' _⟩
      case round =>
        obtain ⟨m, hm, rfl, hall2, hw2⟩ := hrel
        have f0 := boxN hw2 (j := 0) rfl
        have f1 := boxN hw2 (j := 1) rfl
        have HA2 := Lib.hid hall2
        have HW2 := Lib.hid hw2
        by_cases hlt2 : m < X.cells.length
        · obtain ⟨b', off', rfl, hb', _, g0, _⟩ := (HI.out.later (((Later.rfl' _).alloc _).trans hw2)).intAt hlt2
          have CN := fun W => implNumV X.cells[m] _ rfl W
          obtain ⟨Y, hY⟩ : ∃ y, y = X.cells[m] := ⟨_, rfl⟩
          rw [← hY] at g0
          simp only [← hY] at CN
          have HY := Lib.hid hY
          have HCN := Lib.hid CN
          clear hY CN hall2 hw2
          cases hq : numV Y with
          | true =>
            rw [hq] at HCN
            have HQ := Lib.hid hq
            clear hq
            go_wp2_with fail
            refine (HCN.out _).mono ?_; rintro e w3 ⟨rfl, rfl⟩
            go_wp2_with fail
            go_roundw
            case rel => exact ⟨m + 1, by omega, by go_num, fun k hk hkj => if e : k = m then by subst e; rw [← HY.out]; exact HQ.out else HA2.out k hk (by omega), HW2.out⟩
            case measure => simp [intOf]; omega
          | false =>
            rw [hq] at HCN
            have HF : Hid (tableB cl r = false) := by
              unfold Hid
              rw [HV.out]
              refine all_false hlt ?_
              rw [← HX.out]
              unfold rowB
              rw [all_false hlt2 (by rw [← HY.out]; exact hq)]
              simp
            clear hq
            go_wp2_with fail
            refine (HCN.out _).mono ?_; rintro e w3 ⟨rfl, rfl⟩
            go_wp2_with fail
            go_ret
            exact ⟨ret_bool HF.out.symm, (HLW.out.alloc _).trans HW2.out⟩
        · have HQN : Hid (X.cells.all numV = true) := all_true fun k hk => HA2.out k hk (by omega)
          clear hall2 hw2 HA2
          go_wp2_with fail
          go_loopw [47] (fun i wi => ∃ m : Nat, m ≤ X.from_.length ∧ i = .int .i64 m ∧ (∀ k, k < m → ascAt X.from_ k = true) ∧ Later (wo.alloc (.cells #[.slice B1 X.cells.length d1, .slice B2 X.from_.length d2] 79)) wi) (fun i _ => X.from_.length - (intOf i).toNat)
          case atStart => exact ⟨0, Nat.zero_le _, rfl, fun k h => absurd h (by omega), HW2.out⟩
          case round =>
            obtain ⟨wi, rfl⟩ : ∃ wi, wi = wr := ⟨_, rfl⟩
            obtain ⟨m3, hm3, rfl, hall3, hw3⟩ := hrel
            have f1 := boxN hw3 (j := 1) rfl
            have HA3 := Lib.hid hall3
            have HW3 := Lib.hid hw3
            by_cases hlt3 : m3 < X.from_.length
            · obtain ⟨b', off', rfl, hb', _, g0, g1, _⟩ := (HO.out.later (((Later.rfl' _).alloc _).trans hw3)).origAt hlt3
              have hg := getD_at hlt3
              have hzw : wo.heap.size < wi.heap.size := by have := hw3.size; simp only [World.size_alloc] at this; omega
              obtain ⟨⟨x0, x1⟩, hOO⟩ : ∃ x, x = X.from_[m3] := ⟨_, rfl⟩
              rw [← hOO] at g0 g1 hg
              simp only at g0 g1
              have hki : (m3 : Int) < (X.from_.length : Int) := by omega
              have z0 := (box_alloc wi #[.int .i64 x0, .int .i64 x1] 101).cell (j := 0) rfl
              have z1 := (box_alloc wi #[.int .i64 x0, .int .i64 x1] 101).cell (j := 1) rfl
              have z2 := kept_cell ((Later.rfl' wi).alloc (.cells #[.int .i64 x0, .int .i64 x1] 101)) f1
              have HFF : ascAt X.from_ m3 = false → Hid (tableB cl r = false) := fun he => by
                unfold Hid
                rw [HV.out]
                refine all_false hlt ?_
                rw [← HX.out]
                unfold rowB
                rw [asc_false hlt3 he]
                simp
              by_cases h0 : x0 < 0
              · have HF := HFF (by unfold ascAt; rw [hg]; simp; omega)
                clear hg hOO hall3 hw3 HFF
                go_wp2_with fail
                go_quiet (fail)
                go_wp2_with fail
                go_ret
                exact ⟨ret_bool HF.out.symm, (HLW.out.alloc _).trans (HW3.out.trans (((Later.rfl' _).alloc _).trans (Later.drewN _ _)))⟩
              have h0' : 0 ≤ x0 := by omega
              have d0 : decide (x0 < 0) = false := by simpa using h0'
              by_cases h1 : x1 < 0
              · have HF := HFF (by unfold ascAt; rw [hg]; simp; omega)
                clear hg hOO hall3 hw3 HFF h0
                go_wp2_with fail
                go_quiet (fail)
                go_wp2_with fail
                go_ret
                exact ⟨ret_bool HF.out.symm, (HLW.out.alloc _).trans (HW3.out.trans (((Later.rfl' _).alloc _).trans (Later.drewN _ _)))⟩
              have h1' : 0 ≤ x1 := by omega
              have d1 : decide (x1 < 0) = false := by simpa using h1'
              rcases Nat.eq_zero_or_pos m3 with hz3 | hz3
              · have HQ : Hid (ascAt X.from_ m3 = true) := by unfold Hid ascAt; rw [hg]; simp [hz3]; omega
                have d3 : decide ((0 : Int) < (m3 : Int)) = false := by simp; omega
                have d4 : decide (0 < m3) = false := by simp; omega
                have d5 : (m3 : Int) ≤ 0 := by omega
                clear hg hOO hall3 hw3 h0 h1 hz3 HFF
                go_wp2_with fail
                go_quiet (fail)
                go_wp2_with fail
                go_roundw
                case rel => exact ⟨m3 + 1, by omega, by go_num, fun k hk => if e : k = m3 then by subst e; exact HQ.out else HA3.out k (by omega), HW3.out.trans (((Later.rfl' _).alloc _).trans (Later.drewN _ _))⟩
                case measure => simp [intOf]; omega
              · obtain ⟨j', hj'⟩ : ∃ j', m3 = j' + 1 := ⟨m3 - 1, by omega⟩
                have hlt0 : j' < X.from_.length := by omega
                obtain ⟨b', off', eg, hb', _, k0, k1, _⟩ := (HO.out.later (((Later.rfl' _).alloc _).trans hw3)).origAt hlt0
                simp only [Option.some.injEq, Addr.mk.injEq, and_true] at eg
                obtain ⟨rfl, rfl⟩ := eg
                have hg' := getD_at hlt0
                obtain ⟨⟨y0, y1⟩, hZ⟩ : ∃ x, x = X.from_[j'] := ⟨_, rfl⟩
                rw [← hZ] at k0 k1 hg'
                simp only at k0 k1
                have has : ascAt X.from_ m3 = beforeB (y0, y1) (x0, x1) := by
                  have e : m3 - 1 = j' := by omega
                  unfold ascAt; rw [hg, e, hg']; simp [h0', h1']; intro h; omega
                have CB := fun W => implBefore y0 y1 x0 x1 _ rfl W
                obtain ⟨q, hq⟩ : ∃ q, q = beforeB (y0, y1) (x0, x1) := ⟨_, rfl⟩
                rw [← hq] at has
                simp only [← hq] at CB
                have HC := Lib.hid CB
                have HAS := Lib.hid has
                have HF3 := Lib.hid HFF
                have hj1 : (j' : Int) < (X.from_.length : Int) := by omega
                have hsub : IntKind.i64.wrap ((m3 : Int) - 1) = (j' : Int) := by rw [show (m3 : Int) - 1 = j' by omega]; exact IntWalk.i64_in _ (by omega)
                have hsub3 : IntKind.i64.wrap (j' : Int) = (j' : Int) := IntWalk.i64_in _ (by omega)
                have hj0 : (0 : Int) ≤ (j' : Int) := by omega
                have d3 : decide ((0 : Int) < (m3 : Int)) = true := by simp; omega
                have z3 := kept_cell ((Later.rfl' wi).alloc (.cells #[.int .i64 x0, .int .i64 x1] 101)) k0
                have z4 := kept_cell ((Later.rfl' wi).alloc (.cells #[.int .i64 x0, .int .i64 x1] 101)) k1
                clear hg hg' hOO hZ hall3 hw3 h0 h1 hq has CB hj' HFF
                cases q with
                | true =>
                  go_wp2_with fail
                  go_region_held3 (fun w' => w'.cell? ⟨wi.heap.size, 0, none⟩ = some (.int .i64 x0) ∧ w'.cell? ⟨wi.heap.size, 1, none⟩ = some (.int .i64 x1) ∧ w'.cell? ⟨wo.heap.size, 1, none⟩ = some (.slice (some ⟨b', off', none⟩) X.from_.length d2) ∧ w'.cell? ⟨b', off' + j' * 2, none⟩ = some (.int .i64 y0) ∧ w'.cell? ⟨b', off' + j' * 2 + 1, none⟩ = some (.int .i64 y1))
                    (first | exact ⟨z0, z1, z2, z3, z4⟩ | exact ⟨kept_cell hb1 z0, kept_cell hb1 z1, kept_cell hb1 z2, kept_cell hb1 z3, kept_cell hb1 z4⟩)
                    (first | (go_at_call 113; refine (HC.out _).mono ?_; rintro r w1 ⟨rfl, hb1⟩))
                  go_wp2_with fail
                  go_roundw
                  case rel => exact ⟨m3 + 1, by omega, by go_num, fun k hk => if e : k = m3 then by subst e; exact HAS.out else HA3.out k (by omega), HW3.out.trans (((Later.rfl' _).alloc _).trans ((Later.rfl' _).drew.trans hb1))⟩
                  case measure => simp [intOf]; omega
                | false =>
                  have HF := HF3.out HAS.out
                  go_wp2_with fail
                  go_region_held3 (fun w' => w'.cell? ⟨wi.heap.size, 0, none⟩ = some (.int .i64 x0) ∧ w'.cell? ⟨wi.heap.size, 1, none⟩ = some (.int .i64 x1) ∧ w'.cell? ⟨wo.heap.size, 1, none⟩ = some (.slice (some ⟨b', off', none⟩) X.from_.length d2) ∧ w'.cell? ⟨b', off' + j' * 2, none⟩ = some (.int .i64 y0) ∧ w'.cell? ⟨b', off' + j' * 2 + 1, none⟩ = some (.int .i64 y1))
                    (first | exact ⟨z0, z1, z2, z3, z4⟩ | exact ⟨kept_cell hb1 z0, kept_cell hb1 z1, kept_cell hb1 z2, kept_cell hb1 z3, kept_cell hb1 z4⟩)
                    (first | (go_at_call 113; refine (HC.out _).mono ?_; rintro r w1 ⟨rfl, hb1⟩))
                  go_wp2_with fail
                  go_ret
                  exact ⟨ret_bool HF.out.symm, (HLW.out.alloc _).trans (HW3.out.trans (((Later.rfl' _).alloc _).trans ((Later.rfl' _).drew.trans hb1)))⟩
            · have HQ : Hid (rowB cl.length X = true) := by
                unfold Hid rowB
                rw [HQN.out, asc_true fun k hk => HA3.out k (by omega), HN.out]
                simp
              clear hall3 hw3 HA3
              go_wp2_with fail
              go_roundw
              case rel => exact ⟨j + 1, by omega, by go_num, fun k hk hkj => if e : k = j then by subst e; rw [← HX.out]; exact HQ.out else HA.out k hk (by omega), HW.out.trans (((Later.rfl' _).alloc _).trans HW3.out)⟩
              case measure => simp [intOf]; omega
    · have HF : Hid (tableB cl r = true) := by unfold Hid; rw [HV.out]; exact all_true fun k hk => HA.out k hk (by omega)
      clear hall hw
      go_wp2_with fail
      go_ret
      exact ⟨ret_bool HF.out.symm, HLW.out⟩
end Go.Proofs.Ytghemlokpfipoaa
