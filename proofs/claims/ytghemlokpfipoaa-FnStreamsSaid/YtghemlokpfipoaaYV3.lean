/-
  Lists of strings, numbers, origins: the program's and the reference's equality.
-/
import Derived.Test.YtghemlokpfipoaaYV1
namespace Go.Proofs.Ytghemlokpfipoaa
open Go.ChangeShapes Go.WideShapes Go.ChangeAt Go.RowKit
set_option linter.unusedVariables false
set_option linter.unusedSimpArgs false
set_option maxRecDepth 100000

/-- Two lists are equal. -/
def sameL {α : Type} [DecidableEq α] (a b : List α) : Bool := decide (a = b)
theorem sameL_self {α : Type} [DecidableEq α] (a : List α) : sameL a a = true := by simp [sameL]
theorem sameL_len {α : Type} [DecidableEq α] {a b : List α} (h : a.length ≠ b.length) : sameL a b = false := by
  simp only [sameL, decide_eq_false_iff_not]
  rintro rfl
  exact h rfl
theorem sameL_at {α : Type} [DecidableEq α] {a b : List α} {k : Nat} (h1 : k < a.length) (h2 : k < b.length) (h : a[k] ≠ b[k]) : sameL a b = false := by
  simp only [sameL, decide_eq_false_iff_not]
  rintro rfl
  exact h rfl
theorem sameL_all {α : Type} [DecidableEq α] {a b : List α} (hl : a.length = b.length) (h : ∀ k, (h1 : k < a.length) → (h2 : k < b.length) → a[k] = b[k]) : sameL a b = true := by
  simp only [sameL, decide_eq_true_eq]
  exact List.ext_getElem hl h


theorem specTexts (xs ys : List ByteArray) (v u : Value) (W : World) (S S' : Nat → Prop) (h : SlAt W S 1 encS xs v) (h' : SlAt W S' 1 encS ys u) : Calls Try.prog 130 #[v, u] W fun e w' => e = .returned (.bool (sameL xs ys)) ∧ Draws W w' := by
  obtain ⟨A, c, rfl, hlc, hcm⟩ := sl_parts h
  obtain ⟨A', c', rfl, hlc', hcm'⟩ := sl_parts h'
  have HE := Lib.hid h; have HE' := Lib.hid h'; clear h h'
  by_cases hl : xs.length = ys.length
  · have hle : ((xs.length : Int) != (ys.length : Int)) = false := by simp [hl]
    have HL : Hid (xs.length = ys.length) := hl
    clear hl
    go_enter Try.func130, Try.ntmps130
    go_wp2
    go_loopw [5] (fun i wr => ∃ j : Nat, j ≤ xs.length ∧ i = .int .i64 j ∧ (∀ k, (h1 : k < xs.length) → (h2 : k < ys.length) → k < j → xs[k] = ys[k]) ∧ Draws W wr) (fun i _ => xs.length - (intOf i).toNat)
    case atStart => exact ⟨0, Nat.zero_le _, rfl, fun j _ _ h => absurd h (by omega), Draws.rfl' _⟩
    case round =>
      obtain ⟨j, hj, rfl, hall, hw⟩ := hrel
      have HA := Lib.hid hall
      clear hall
      by_cases hlt : j < xs.length
      · have hlt' : j < ys.length := by have := HL.out; omega
        obtain ⟨b, off, rfl, hb, _, e0⟩ := (HE.out.later hw.later).strAt hlt
        obtain ⟨b', off', rfl, hb', _, e0'⟩ := (HE'.out.later hw.later).strAt hlt'
        obtain ⟨X, hX⟩ : ∃ x, x = xs[j] := ⟨_, rfl⟩
        obtain ⟨Y, hY⟩ : ∃ x, x = ys[j] := ⟨_, rfl⟩
        have HX := Lib.hid hX
        have HY := Lib.hid hY
        rw [← hX] at e0
        rw [← hY] at e0'
        have hki : (j : Int) < (xs.length : Int) := by omega
        have hki' : (j : Int) < (ys.length : Int) := by omega
        clear hX hY
        by_cases hq : X = Y
        · subst hq
          have HQ : Hid (xs[j] = ys[j]) := by have h1 := HX.out; have h2 := HY.out; exact h1.symm.trans h2
          clear HX HY
          go_wp2
          go_quiet (fail)
          go_wp2
          go_roundw
          case rel => exact ⟨j + 1, by omega, by go_num, fun k h1 h2 hkj => if e : k = j then by subst e; exact HQ.out else HA.out k h1 h2 (by omega), hw.trans (Draws.drewN _ _)⟩
          case measure => simp [intOf]; omega
        · have hne : (X.toList == Y.toList) = false := by rw [beq_toList]; simpa using hq
          have HV : Hid (sameL xs ys = false) := sameL_at hlt hlt' (by have h1 := HX.out; have h2 := HY.out; rw [← h1, ← h2]; exact hq)
          clear HX HY hq
          go_wp2
          go_quiet (fail)
          go_wp2
          go_ret
          exact ⟨ret_bool HV.out.symm, hw.trans (Draws.drewN _ _)⟩
      · have HV : Hid (sameL xs ys = true) := sameL_all HL.out fun k h1 h2 => HA.out k h1 h2 (by omega)
        go_wp2
        go_ret
        exact ⟨ret_bool HV.out.symm, hw⟩
  · have hle : ((xs.length : Int) != (ys.length : Int)) = true := by simp; omega
    have HV : Hid (sameL xs ys = false) := sameL_len hl
    clear hl
    go_enter Try.func130, Try.ntmps130
    go_wp2
    go_ret
    exact ⟨ret_bool HV.out.symm, Draws.rfl' _⟩

theorem implTexts (xs ys : List ByteArray) (v u : Value) (W : World) (S S' : Nat → Prop) (h : SlAt W S 1 encS xs v) (h' : SlAt W S' 1 encS ys u) : Calls Try.prog 127 #[v, u] W fun e w' => e = .returned (.bool (sameL xs ys)) ∧ Draws W w' := by
  obtain ⟨A, c, rfl, hlc, hcm⟩ := sl_parts h
  obtain ⟨A', c', rfl, hlc', hcm'⟩ := sl_parts h'
  have HE := Lib.hid h; have HE' := Lib.hid h'; clear h h'
  by_cases hl : xs.length = ys.length
  · have hle : ((xs.length : Int) != (ys.length : Int)) = false := by simp [hl]
    have HL : Hid (xs.length = ys.length) := hl
    clear hl
    go_enter Try.func127, Try.ntmps127
    go_wp2
    go_loopw [13] (fun i wr => ∃ j : Nat, j ≤ xs.length ∧ i = .int .i64 j ∧ (∀ k, (h1 : k < xs.length) → (h2 : k < ys.length) → k < j → xs[k] = ys[k]) ∧ Draws W wr) (fun i _ => xs.length - (intOf i).toNat)
    case atStart => exact ⟨0, Nat.zero_le _, rfl, fun j _ _ h => absurd h (by omega), Draws.rfl' _⟩
    case round =>
      obtain ⟨j, hj, rfl, hall, hw⟩ := hrel
      have HA := Lib.hid hall
      clear hall
      by_cases hlt : j < xs.length
      · have hlt' : j < ys.length := by have := HL.out; omega
        obtain ⟨b, off, rfl, hb, _, e0⟩ := (HE.out.later hw.later).strAt hlt
        obtain ⟨b', off', rfl, hb', _, e0'⟩ := (HE'.out.later hw.later).strAt hlt'
        obtain ⟨X, hX⟩ : ∃ x, x = xs[j] := ⟨_, rfl⟩
        obtain ⟨Y, hY⟩ : ∃ x, x = ys[j] := ⟨_, rfl⟩
        have HX := Lib.hid hX
        have HY := Lib.hid hY
        rw [← hX] at e0
        rw [← hY] at e0'
        have hki : (j : Int) < (xs.length : Int) := by omega
        have hki' : (j : Int) < (ys.length : Int) := by omega
        clear hX hY
        by_cases hq : X = Y
        · subst hq
          have HQ : Hid (xs[j] = ys[j]) := by have h1 := HX.out; have h2 := HY.out; exact h1.symm.trans h2
          clear HX HY
          go_wp2
          go_quiet (fail)
          go_wp2
          go_roundw
          case rel => exact ⟨j + 1, by omega, by go_num, fun k h1 h2 hkj => if e : k = j then by subst e; exact HQ.out else HA.out k h1 h2 (by omega), hw.trans (Draws.drewN _ _)⟩
          case measure => simp [intOf]; omega
        · have hne : (X.toList == Y.toList) = false := by rw [beq_toList]; simpa using hq
          have HV : Hid (sameL xs ys = false) := sameL_at hlt hlt' (by have h1 := HX.out; have h2 := HY.out; rw [← h1, ← h2]; exact hq)
          clear HX HY hq
          go_wp2
          go_quiet (fail)
          go_wp2
          go_ret
          exact ⟨ret_bool HV.out.symm, hw.trans (Draws.drewN _ _)⟩
      · have HV : Hid (sameL xs ys = true) := sameL_all HL.out fun k h1 h2 => HA.out k h1 h2 (by omega)
        go_wp2
        go_ret
        exact ⟨ret_bool HV.out.symm, hw⟩
  · have hle : ((xs.length : Int) != (ys.length : Int)) = true := by simp; omega
    have HV : Hid (sameL xs ys = false) := sameL_len hl
    clear hl
    go_enter Try.func127, Try.ntmps127
    go_wp2
    go_ret
    exact ⟨ret_bool HV.out.symm, Draws.rfl' _⟩

theorem specInts (xs ys : List Int) (v u : Value) (W : World) (S S' : Nat → Prop) (h : SlAt W S 1 encI xs v) (h' : SlAt W S' 1 encI ys u) : Calls Try.prog 131 #[v, u] W fun e w' => e = .returned (.bool (sameL xs ys)) ∧ Draws W w' := by
  obtain ⟨A, c, rfl, hlc, hcm⟩ := sl_parts h
  obtain ⟨A', c', rfl, hlc', hcm'⟩ := sl_parts h'
  have HE := Lib.hid h; have HE' := Lib.hid h'; clear h h'
  by_cases hl : xs.length = ys.length
  · have hle : ((xs.length : Int) != (ys.length : Int)) = false := by simp [hl]
    have HL : Hid (xs.length = ys.length) := hl
    clear hl
    go_enter Try.func131, Try.ntmps131
    go_wp2
    go_loopw [5] (fun i wr => ∃ j : Nat, j ≤ xs.length ∧ i = .int .i64 j ∧ (∀ k, (h1 : k < xs.length) → (h2 : k < ys.length) → k < j → xs[k] = ys[k]) ∧ Draws W wr) (fun i _ => xs.length - (intOf i).toNat)
    case atStart => exact ⟨0, Nat.zero_le _, rfl, fun j _ _ h => absurd h (by omega), Draws.rfl' _⟩
    case round =>
      obtain ⟨j, hj, rfl, hall, hw⟩ := hrel
      have HA := Lib.hid hall
      clear hall
      by_cases hlt : j < xs.length
      · have hlt' : j < ys.length := by have := HL.out; omega
        obtain ⟨b, off, rfl, hb, _, e0, _⟩ := (HE.out.later hw.later).intAt hlt
        obtain ⟨b', off', rfl, hb', _, e0', _⟩ := (HE'.out.later hw.later).intAt hlt'
        obtain ⟨X, hX⟩ : ∃ x, x = xs[j] := ⟨_, rfl⟩
        obtain ⟨Y, hY⟩ : ∃ x, x = ys[j] := ⟨_, rfl⟩
        have HX := Lib.hid hX
        have HY := Lib.hid hY
        rw [← hX] at e0
        rw [← hY] at e0'
        have hki : (j : Int) < (xs.length : Int) := by omega
        have hki' : (j : Int) < (ys.length : Int) := by omega
        clear hX hY
        by_cases hq : X = Y
        · subst hq
          have HQ : Hid (xs[j] = ys[j]) := by have h1 := HX.out; have h2 := HY.out; exact h1.symm.trans h2
          clear HX HY
          go_wp2
          go_quiet (fail)
          go_wp2
          go_roundw
          case rel => exact ⟨j + 1, by omega, by go_num, fun k h1 h2 hkj => if e : k = j then by subst e; exact HQ.out else HA.out k h1 h2 (by omega), hw.trans (Draws.drewN _ _)⟩
          case measure => simp [intOf]; omega
        · have hne : (X != Y) = true := by simpa using hq
          have HV : Hid (sameL xs ys = false) := sameL_at hlt hlt' (by have h1 := HX.out; have h2 := HY.out; rw [← h1, ← h2]; exact hq)
          clear HX HY hq
          go_wp2
          go_quiet (fail)
          go_wp2
          go_ret
          exact ⟨ret_bool HV.out.symm, hw.trans (Draws.drewN _ _)⟩
      · have HV : Hid (sameL xs ys = true) := sameL_all HL.out fun k h1 h2 => HA.out k h1 h2 (by omega)
        go_wp2
        go_ret
        exact ⟨ret_bool HV.out.symm, hw⟩
  · have hle : ((xs.length : Int) != (ys.length : Int)) = true := by simp; omega
    have HV : Hid (sameL xs ys = false) := sameL_len hl
    clear hl
    go_enter Try.func131, Try.ntmps131
    go_wp2
    go_ret
    exact ⟨ret_bool HV.out.symm, Draws.rfl' _⟩

theorem implInts (xs ys : List Int) (v u : Value) (W : World) (S S' : Nat → Prop) (h : SlAt W S 1 encI xs v) (h' : SlAt W S' 1 encI ys u) : Calls Try.prog 128 #[v, u] W fun e w' => e = .returned (.bool (sameL xs ys)) ∧ Draws W w' := by
  obtain ⟨A, c, rfl, hlc, hcm⟩ := sl_parts h
  obtain ⟨A', c', rfl, hlc', hcm'⟩ := sl_parts h'
  have HE := Lib.hid h; have HE' := Lib.hid h'; clear h h'
  by_cases hl : xs.length = ys.length
  · have hle : ((xs.length : Int) != (ys.length : Int)) = false := by simp [hl]
    have HL : Hid (xs.length = ys.length) := hl
    clear hl
    go_enter Try.func128, Try.ntmps128
    go_wp2
    go_loopw [13] (fun i wr => ∃ j : Nat, j ≤ xs.length ∧ i = .int .i64 j ∧ (∀ k, (h1 : k < xs.length) → (h2 : k < ys.length) → k < j → xs[k] = ys[k]) ∧ Draws W wr) (fun i _ => xs.length - (intOf i).toNat)
    case atStart => exact ⟨0, Nat.zero_le _, rfl, fun j _ _ h => absurd h (by omega), Draws.rfl' _⟩
    case round =>
      obtain ⟨j, hj, rfl, hall, hw⟩ := hrel
      have HA := Lib.hid hall
      clear hall
      by_cases hlt : j < xs.length
      · have hlt' : j < ys.length := by have := HL.out; omega
        obtain ⟨b, off, rfl, hb, _, e0, _⟩ := (HE.out.later hw.later).intAt hlt
        obtain ⟨b', off', rfl, hb', _, e0', _⟩ := (HE'.out.later hw.later).intAt hlt'
        obtain ⟨X, hX⟩ : ∃ x, x = xs[j] := ⟨_, rfl⟩
        obtain ⟨Y, hY⟩ : ∃ x, x = ys[j] := ⟨_, rfl⟩
        have HX := Lib.hid hX
        have HY := Lib.hid hY
        rw [← hX] at e0
        rw [← hY] at e0'
        have hki : (j : Int) < (xs.length : Int) := by omega
        have hki' : (j : Int) < (ys.length : Int) := by omega
        clear hX hY
        by_cases hq : X = Y
        · subst hq
          have HQ : Hid (xs[j] = ys[j]) := by have h1 := HX.out; have h2 := HY.out; exact h1.symm.trans h2
          clear HX HY
          go_wp2
          go_quiet (fail)
          go_wp2
          go_roundw
          case rel => exact ⟨j + 1, by omega, by go_num, fun k h1 h2 hkj => if e : k = j then by subst e; exact HQ.out else HA.out k h1 h2 (by omega), hw.trans (Draws.drewN _ _)⟩
          case measure => simp [intOf]; omega
        · have hne : (X != Y) = true := by simpa using hq
          have HV : Hid (sameL xs ys = false) := sameL_at hlt hlt' (by have h1 := HX.out; have h2 := HY.out; rw [← h1, ← h2]; exact hq)
          clear HX HY hq
          go_wp2
          go_quiet (fail)
          go_wp2
          go_ret
          exact ⟨ret_bool HV.out.symm, hw.trans (Draws.drewN _ _)⟩
      · have HV : Hid (sameL xs ys = true) := sameL_all HL.out fun k h1 h2 => HA.out k h1 h2 (by omega)
        go_wp2
        go_ret
        exact ⟨ret_bool HV.out.symm, hw⟩
  · have hle : ((xs.length : Int) != (ys.length : Int)) = true := by simp; omega
    have HV : Hid (sameL xs ys = false) := sameL_len hl
    clear hl
    go_enter Try.func128, Try.ntmps128
    go_wp2
    go_ret
    exact ⟨ret_bool HV.out.symm, Draws.rfl' _⟩

theorem specOrigs (xs ys : List Org) (v u : Value) (W : World) (S S' : Nat → Prop) (h : SlAt W S 2 encO xs v) (h' : SlAt W S' 2 encO ys u) : Calls Try.prog 132 #[v, u] W fun e w' => e = .returned (.bool (sameL xs ys)) ∧ Draws W w' := by
  obtain ⟨A, c, rfl, hlc, hcm⟩ := sl_parts h
  obtain ⟨A', c', rfl, hlc', hcm'⟩ := sl_parts h'
  have HE := Lib.hid h; have HE' := Lib.hid h'; clear h h'
  by_cases hl : xs.length = ys.length
  · have hle : ((xs.length : Int) != (ys.length : Int)) = false := by simp [hl]
    have HL : Hid (xs.length = ys.length) := hl
    clear hl
    go_enter Try.func132, Try.ntmps132
    go_wp2
    go_loopw [5] (fun i wr => ∃ j : Nat, j ≤ xs.length ∧ i = .int .i64 j ∧ (∀ k, (h1 : k < xs.length) → (h2 : k < ys.length) → k < j → xs[k] = ys[k]) ∧ Draws W wr) (fun i _ => xs.length - (intOf i).toNat)
    case atStart => exact ⟨0, Nat.zero_le _, rfl, fun j _ _ h => absurd h (by omega), Draws.rfl' _⟩
    case round =>
      obtain ⟨j, hj, rfl, hall, hw⟩ := hrel
      have HA := Lib.hid hall
      clear hall
      by_cases hlt : j < xs.length
      · have hlt' : j < ys.length := by have := HL.out; omega
        obtain ⟨b, off, rfl, hb, _, e0, e1, _⟩ := (HE.out.later hw.later).origAt hlt
        obtain ⟨b', off', rfl, hb', _, e0', e1', _⟩ := (HE'.out.later hw.later).origAt hlt'
        obtain ⟨X, hX⟩ : ∃ x, x = xs[j] := ⟨_, rfl⟩
        obtain ⟨Y, hY⟩ : ∃ x, x = ys[j] := ⟨_, rfl⟩
        have HX := Lib.hid hX
        have HY := Lib.hid hY
        rw [← hX] at e0 e1
        rw [← hY] at e0' e1'
        obtain ⟨x0, x1⟩ := X
        obtain ⟨z0, z1⟩ := Y
        simp only at e0 e1 e0' e1'
        have hki : (j : Int) < (xs.length : Int) := by omega
        have hki' : (j : Int) < (ys.length : Int) := by omega
        clear hX hY
        by_cases hq : x0 = z0
        · subst hq
          by_cases hq2 : x1 = z1
          · subst hq2
            have HQ : Hid (xs[j] = ys[j]) := by have h1 := HX.out; have h2 := HY.out; exact h1.symm.trans h2
            clear HX HY
            go_wp2
            go_quiet (fail)
            go_wp2
            go_roundw
            case rel => exact ⟨j + 1, by omega, by go_num, fun k h1 h2 hkj => if e : k = j then by subst e; exact HQ.out else HA.out k h1 h2 (by omega), hw.trans (Draws.drewN _ _)⟩
            case measure => simp [intOf]; omega
          · have hne : (x1 != z1) = true := by simpa using hq2
            have hne2 : (x1 == z1) = false := by simpa using hq2
            have HV : Hid (sameL xs ys = false) := sameL_at hlt hlt' (by have h1 := HX.out; have h2 := HY.out; rw [← h1, ← h2]; intro e; simp only [Prod.mk.injEq, true_and] at e; exact hq2 e)
            clear HX HY hq2
            go_wp2
            go_quiet (fail)
            go_wp2
            go_ret
            exact ⟨ret_bool HV.out.symm, hw.trans (Draws.drewN _ _)⟩
        · have hne : (x0 != z0) = true := by simpa using hq
          have hne2 : (x0 == z0) = false := by simpa using hq
          have HV : Hid (sameL xs ys = false) := sameL_at hlt hlt' (by have h1 := HX.out; have h2 := HY.out; rw [← h1, ← h2]; intro e; simp only [Prod.mk.injEq] at e; exact hq e.1)
          clear HX HY hq
          go_wp2
          go_quiet (fail)
          go_wp2
          go_ret
          exact ⟨ret_bool HV.out.symm, hw.trans (Draws.drewN _ _)⟩
      · have HV : Hid (sameL xs ys = true) := sameL_all HL.out fun k h1 h2 => HA.out k h1 h2 (by omega)
        go_wp2
        go_ret
        exact ⟨ret_bool HV.out.symm, hw⟩
  · have hle : ((xs.length : Int) != (ys.length : Int)) = true := by simp; omega
    have HV : Hid (sameL xs ys = false) := sameL_len hl
    clear hl
    go_enter Try.func132, Try.ntmps132
    go_wp2
    go_ret
    exact ⟨ret_bool HV.out.symm, Draws.rfl' _⟩

theorem implOrigs (xs ys : List Org) (v u : Value) (W : World) (S S' : Nat → Prop) (h : SlAt W S 2 encO xs v) (h' : SlAt W S' 2 encO ys u) : Calls Try.prog 129 #[v, u] W fun e w' => e = .returned (.bool (sameL xs ys)) ∧ Draws W w' := by
  obtain ⟨A, c, rfl, hlc, hcm⟩ := sl_parts h
  obtain ⟨A', c', rfl, hlc', hcm'⟩ := sl_parts h'
  have HE := Lib.hid h; have HE' := Lib.hid h'; clear h h'
  by_cases hl : xs.length = ys.length
  · have hle : ((xs.length : Int) != (ys.length : Int)) = false := by simp [hl]
    have HL : Hid (xs.length = ys.length) := hl
    clear hl
    go_enter Try.func129, Try.ntmps129
    go_wp2
    go_loopw [13] (fun i wr => ∃ j : Nat, j ≤ xs.length ∧ i = .int .i64 j ∧ (∀ k, (h1 : k < xs.length) → (h2 : k < ys.length) → k < j → xs[k] = ys[k]) ∧ Draws W wr) (fun i _ => xs.length - (intOf i).toNat)
    case atStart => exact ⟨0, Nat.zero_le _, rfl, fun j _ _ h => absurd h (by omega), Draws.rfl' _⟩
    case round =>
      obtain ⟨j, hj, rfl, hall, hw⟩ := hrel
      have HA := Lib.hid hall
      clear hall
      by_cases hlt : j < xs.length
      · have hlt' : j < ys.length := by have := HL.out; omega
        obtain ⟨b, off, rfl, hb, _, e0, e1, _⟩ := (HE.out.later hw.later).origAt hlt
        obtain ⟨b', off', rfl, hb', _, e0', e1', _⟩ := (HE'.out.later hw.later).origAt hlt'
        obtain ⟨X, hX⟩ : ∃ x, x = xs[j] := ⟨_, rfl⟩
        obtain ⟨Y, hY⟩ : ∃ x, x = ys[j] := ⟨_, rfl⟩
        have HX := Lib.hid hX
        have HY := Lib.hid hY
        rw [← hX] at e0 e1
        rw [← hY] at e0' e1'
        obtain ⟨x0, x1⟩ := X
        obtain ⟨z0, z1⟩ := Y
        simp only at e0 e1 e0' e1'
        have hki : (j : Int) < (xs.length : Int) := by omega
        have hki' : (j : Int) < (ys.length : Int) := by omega
        clear hX hY
        by_cases hq : x0 = z0
        · subst hq
          by_cases hq2 : x1 = z1
          · subst hq2
            have HQ : Hid (xs[j] = ys[j]) := by have h1 := HX.out; have h2 := HY.out; exact h1.symm.trans h2
            clear HX HY
            go_wp2
            go_quiet (fail)
            go_wp2
            go_roundw
            case rel => exact ⟨j + 1, by omega, by go_num, fun k h1 h2 hkj => if e : k = j then by subst e; exact HQ.out else HA.out k h1 h2 (by omega), hw.trans (Draws.drewN _ _)⟩
            case measure => simp [intOf]; omega
          · have hne : (x1 != z1) = true := by simpa using hq2
            have hne2 : (x1 == z1) = false := by simpa using hq2
            have HV : Hid (sameL xs ys = false) := sameL_at hlt hlt' (by have h1 := HX.out; have h2 := HY.out; rw [← h1, ← h2]; intro e; simp only [Prod.mk.injEq, true_and] at e; exact hq2 e)
            clear HX HY hq2
            go_wp2
            go_quiet (fail)
            go_wp2
            go_ret
            exact ⟨ret_bool HV.out.symm, hw.trans (Draws.drewN _ _)⟩
        · have hne : (x0 != z0) = true := by simpa using hq
          have hne2 : (x0 == z0) = false := by simpa using hq
          have HV : Hid (sameL xs ys = false) := sameL_at hlt hlt' (by have h1 := HX.out; have h2 := HY.out; rw [← h1, ← h2]; intro e; simp only [Prod.mk.injEq] at e; exact hq e.1)
          clear HX HY hq
          go_wp2
          go_quiet (fail)
          go_wp2
          go_ret
          exact ⟨ret_bool HV.out.symm, hw.trans (Draws.drewN _ _)⟩
      · have HV : Hid (sameL xs ys = true) := sameL_all HL.out fun k h1 h2 => HA.out k h1 h2 (by omega)
        go_wp2
        go_ret
        exact ⟨ret_bool HV.out.symm, hw⟩
  · have hle : ((xs.length : Int) != (ys.length : Int)) = true := by simp; omega
    have HV : Hid (sameL xs ys = false) := sameL_len hl
    clear hl
    go_enter Try.func129, Try.ntmps129
    go_wp2
    go_ret
    exact ⟨ret_bool HV.out.symm, Draws.rfl' _⟩
end Go.Proofs.Ytghemlokpfipoaa
