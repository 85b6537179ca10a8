/-
  Valid values: l3Ascending, l3Table: the walks.
-/
import Derived.Test.YtefhaochkfodnaaN1
import Derived.Deep.QuietTactic
import Derived.BigQuiet
import Derived.StillTailTactics
import Derived.Deep.RegionHeld3
namespace Go.Proofs.Ytefhaochkfodnaa
open Go.ChangeShapes Go.WideShapes Go.ChangeAt Go.RowKit
set_option linter.unusedVariables false
set_option linter.unusedSimpArgs false
set_option maxRecDepth 100000

set_option maxHeartbeats 1000000 in
theorem specAscending (l : List Org) (W : World) (S : Nat → Prop) (v : Value) (h : SlAt W S 2 encO l v) : Calls Try.prog 89 #[v] W fun r w' => r = .returned (.bool (ascB l)) ∧ Later W w' := by
  obtain ⟨A, c, rfl, hlc, hcm⟩ := sl_parts h
  have HE := Lib.hid h; clear h
  go_enter Try.func89, Try.ntmps89
  go_wp2_with fail
  go_loopw [3] (fun i wr => ∃ j : Nat, j ≤ l.length ∧ i = .int .i64 j ∧ (∀ k, k < j → ascAt l k = true) ∧ Later W wr) (fun i _ => l.length - (intOf i).toNat)
  case atStart => exact ⟨0, Nat.zero_le _, rfl, fun k h => absurd h (by omega), Later.rfl' _⟩
  case round =>
    obtain ⟨j, hj, rfl, hall, hw⟩ := hrel
    have HA := Lib.hid hall
    have HW := Lib.hid hw
    by_cases hlt : j < l.length
    · obtain ⟨b, off, rfl, hb, _, e0, e1, _⟩ := (HE.out.later hw).origAt hlt
      have hg := getD_at hlt
      obtain ⟨⟨x0, x1⟩, hX⟩ : ∃ x, x = l[j] := ⟨_, rfl⟩
      rw [← hX] at e0 e1 hg
      simp only at e0 e1
      have hki : (j : Int) < (l.length : Int) := by omega
      by_cases h0 : x0 < 0
      · have HV : Hid (ascB l = false) := asc_false hlt (by unfold ascAt; rw [hg]; simp; omega)
        clear hg hX hall hw
        go_wp2
        go_quiet (fail)
        go_wp2
        go_ret
        exact ⟨ret_bool HV.out.symm, HW.out.trans (Later.drewN _ _)⟩
      have h0' : 0 ≤ x0 := by omega
      have d0 : decide (x0 < 0) = false := by simpa using h0'
      by_cases h1 : x1 < 0
      · have HV : Hid (ascB l = false) := asc_false hlt (by unfold ascAt; rw [hg]; simp; omega)
        clear hg hX hall hw
        go_wp2
        go_quiet (fail)
        go_wp2
        go_ret
        exact ⟨ret_bool HV.out.symm, HW.out.trans (Later.drewN _ _)⟩
      have h1' : 0 ≤ x1 := by omega
      have d1 : decide (x1 < 0) = false := by simpa using h1'
      rcases Nat.eq_zero_or_pos j with hz | hz
      · have HQ : Hid (ascAt l j = true) := by unfold Hid ascAt; rw [hg]; simp [hz]; omega
        have d3 : decide ((0 : Int) < (j : Int)) = false := by simp; omega
        have d4 : decide (0 < j) = false := by simp; omega
        have d5 : (j : Int) ≤ 0 := by omega
        clear hg hX hall hw h0 h1 hz
        go_wp2
        go_quiet (fail)
        go_wp2
        go_roundw
        case rel => exact ⟨j + 1, by omega, by go_num, fun k hk => if e : k = j then by subst e; exact HQ.out else HA.out k (by omega), HW.out.trans (Later.drewN _ _)⟩
        case measure => simp [intOf]; omega
      · obtain ⟨j', hj'⟩ : ∃ j', j = j' + 1 := ⟨j - 1, by omega⟩
        have hlt0 : j' < l.length := by omega
        obtain ⟨b', off', eg, hb', _, k0, k1, _⟩ := (HE.out.later hw).origAt hlt0
        simp only [Option.some.injEq, Addr.mk.injEq, and_true] at eg
        obtain ⟨rfl, rfl⟩ := eg
        have hg' := getD_at hlt0
        obtain ⟨⟨z0, z1⟩, hZ⟩ : ∃ x, x = l[j'] := ⟨_, rfl⟩
        rw [← hZ] at k0 k1 hg'
        simp only at k0 k1
        have has : ascAt l j = beforeB (z0, z1) (x0, x1) := by
          have e : j - 1 = j' := by omega
          unfold ascAt; rw [hg, e, hg']; simp [h0', h1']; intro h; omega
        have CB := fun W => specBefore z0 z1 x0 x1 _ rfl W
        obtain ⟨q, hq⟩ : ∃ q, q = beforeB (z0, z1) (x0, x1) := ⟨_, rfl⟩
        rw [← hq] at has
        simp only [← hq] at CB
        have HC := Lib.hid CB
        have HAS := Lib.hid has
        have hj1 : (j' : Int) < (l.length : Int) := by omega
        have hsub : IntKind.i64.wrap ((j : Int) - 1) = (j' : Int) := by rw [show (j : Int) - 1 = j' by omega]; exact IntWalk.i64_in _ (by omega)
        have hsub3 : IntKind.i64.wrap (j' : Int) = (j' : Int) := IntWalk.i64_in _ (by omega)
        have hj0 : (0 : Int) ≤ (j' : Int) := by omega
        have d3 : decide ((0 : Int) < (j : Int)) = true := by simp; omega
        clear hg hg' hX hZ hall hw h0 h1 hq has CB hj'
        cases q with
        | true =>
          go_wp2_with fail
          go_region_held3 (fun w' => w'.cell? ⟨b, off + j' * 2, none⟩ = some (.int .i64 z0) ∧ w'.cell? ⟨b, off + j' * 2 + 1, none⟩ = some (.int .i64 z1) ∧ w'.cell? ⟨b, off + j * 2, none⟩ = some (.int .i64 x0) ∧ w'.cell? ⟨b, off + j * 2 + 1, none⟩ = some (.int .i64 x1))
            (first | exact ⟨k0, k1, e0, e1⟩ | exact ⟨kept_cell hb1 k0, kept_cell hb1 k1, kept_cell hb1 e0, kept_cell hb1 e1⟩)
            (first | (go_at_call 91; refine (HC.out _).mono ?_; rintro r w1 ⟨rfl, hb1⟩))
          go_wp2_with fail
          go_roundw
          case rel => exact ⟨j + 1, by omega, by go_num, fun k hk => if e : k = j then by subst e; exact HAS.out else HA.out k (by omega), HW.out.trans ((Later.rfl' _).drew.trans hb1)⟩
          case measure => simp [intOf]; omega
        | false =>
          have HV : Hid (ascB l = false) := asc_false hlt HAS.out
          go_wp2_with fail
          go_region_held3 (fun w' => w'.cell? ⟨b, off + j' * 2, none⟩ = some (.int .i64 z0) ∧ w'.cell? ⟨b, off + j' * 2 + 1, none⟩ = some (.int .i64 z1) ∧ w'.cell? ⟨b, off + j * 2, none⟩ = some (.int .i64 x0) ∧ w'.cell? ⟨b, off + j * 2 + 1, none⟩ = some (.int .i64 x1))
            (first | exact ⟨k0, k1, e0, e1⟩ | exact ⟨kept_cell hb1 k0, kept_cell hb1 k1, kept_cell hb1 e0, kept_cell hb1 e1⟩)
            (first | (go_at_call 91; refine (HC.out _).mono ?_; rintro r w1 ⟨rfl, hb1⟩))
          go_wp2_with fail
          go_ret
          exact ⟨ret_bool HV.out.symm, HW.out.trans ((Later.rfl' _).drew.trans hb1)⟩
    · have HV : Hid (ascB l = true) := asc_true fun k hk => HA.out k (by omega)
      clear hall hw
      go_wp2
      go_ret
      exact ⟨ret_bool HV.out.symm, HW.out⟩
end Go.Proofs.Ytefhaochkfodnaa
