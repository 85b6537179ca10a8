/-
  Valid values: l3Ascending, l3Table: the walks. Valid values: l3Table: the walk.
-/
import Derived.Test.YtghemlokpfipoaaPart16
import Derived.Deep.QuietTactic
import Derived.BigQuiet
import Derived.StillTailTactics
import Derived.Deep.RegionHeld3
namespace Go.Proofs.Ytghemlokpfipoaa
open Go.ChangeShapes Go.WideShapes Go.ChangeAt Go.RowKit
set_option linter.unusedVariables false
set_option linter.unusedSimpArgs false
set_option maxRecDepth 100000

set_option maxHeartbeats 1000000 in
theorem specAscending (l : List Org) (W : World) (S : Nat → Prop) (v : Value) (h : SlAt W S 2 encO l v) : Calls Try.prog 144 #[v] W fun r w' => r = .returned (.bool (ascB l)) ∧ Later W w' := by
  obtain ⟨A, c, rfl, hlc, hcm⟩ := sl_parts h
  have HE := Lib.hid h; clear h
  go_enter Try.func144, Try.ntmps144
  go_wp2_with fail
  go_loopw [3] (fun i wr => ∃ j : Nat, j ≤ l.length ∧ i = .int .i64 j ∧ (∀ k, k < j → ascAt l k = true) ∧ Later W wr) (fun i _ => l.length - (intOf i).toNat)
  case atStart => exact ⟨0, Nat.zero_le _, rfl, fun k h => absurd h (by omega), Later.rfl' _⟩
  case round =>
    obtain ⟨j, hj, rfl, hall, hw⟩ := hrel
    have HA := Lib.hid hall
    have HW := Lib.hid hw
    by_cases hlt : j < l.length
    · obtain ⟨b, off, rfl, hb, _, e0, e1, _⟩ := (HE.out.later hw).origAt hlt
      have hg := getD_at hlt
      obtain ⟨⟨x0, x1⟩, hX⟩ : ∃ x, x = l[j] := ⟨_, rfl⟩
      rw [← hX] at e0 e1 hg
      simp only at e0 e1
      have hki : (j : Int) < (l.length : Int) := by omega
      by_cases h0 : x0 < 0
      · have HV : Hid (ascB l = false) := asc_false hlt (by unfold ascAt; rw [hg]; simp; omega)
        clear hg hX hall hw
        go_wp2
        go_quiet (fail)
        go_wp2
        go_ret
        exact ⟨ret_bool HV.out.symm, HW.out.trans (Later.drewN _ _)⟩
      have h0' : 0 ≤ x0 := by omega
      have d0 : decide (x0 < 0) = false := by simpa using h0'
      by_cases h1 : x1 < 0
      · have HV : Hid (ascB l = false) := asc_false hlt (by unfold ascAt; rw [hg]; simp; omega)
        clear hg hX hall hw
        go_wp2
        go_quiet (fail)
        go_wp2
        go_ret
        exact ⟨ret_bool HV.out.symm, HW.out.trans (Later.drewN _ _)⟩
      have h1' : 0 ≤ x1 := by omega
      have d1 : decide (x1 < 0) = false := by simpa using h1'
      rcases Nat.eq_zero_or_pos j with hz | hz
      · have HQ : Hid (ascAt l j = true) := by unfold Hid ascAt; rw [hg]; simp [hz]; omega
        have d3 : decide ((0 : Int) < (j : Int)) = false := by simp; omega
        have d4 : decide (0 < j) = false := by simp; omega
        have d5 : (j : Int) ≤ 0 := by omega
        clear hg hX hall hw h0 h1 hz
        go_wp2
        go_quiet (fail)
        go_wp2
        go_roundw
        case rel => exact ⟨j + 1, by omega, by go_num, fun k hk => if e : k = j then by subst e; exact HQ.out else HA.out k (by omega), HW.out.trans (Later.drewN _ _)⟩
        case measure => simp [intOf]; omega
      · obtain ⟨j', hj'⟩ : ∃ j', j = j' + 1 := ⟨j - 1, by omega⟩
        have hlt0 : j' < l.length := by omega
        obtain ⟨b', off', eg, hb', _, k0, k1, _⟩ := (HE.out.later hw).origAt hlt0
        simp only [Option.some.injEq, Addr.mk.injEq, and_true] at eg
        obtain ⟨rfl, rfl⟩ := eg
        have hg' := getD_at hlt0
        obtain ⟨⟨z0, z1⟩, hZ⟩ : ∃ x, x = l[j'] := ⟨_, rfl⟩
        rw [← hZ] at k0 k1 hg'
        simp only at k0 k1
        have has : ascAt l j = beforeB (z0, z1) (x0, x1) := by
          have e : j - 1 = j' := by omega
          unfold ascAt; rw [hg, e, hg']; simp [h0', h1']; intro h; omega
        have CB := fun W => specBefore z0 z1 x0 x1 _ rfl W
        obtain ⟨q, hq⟩ : ∃ q, q = beforeB (z0, z1) (x0, x1) := ⟨_, rfl⟩
        rw [← hq] at has
        simp only [← hq] at CB
        have HC := Lib.hid CB
        have HAS := Lib.hid has
        have hj1 : (j' : Int) < (l.length : Int) := by omega
        have hsub : IntKind.i64.wrap ((j : Int) - 1) = (j' : Int) := by rw [show (j : Int) - 1 = j' by omega]; exact IntWalk.i64_in _ (by omega)
        have hsub3 : IntKind.i64.wrap (j' : Int) = (j' : Int) := IntWalk.i64_in _ (by omega)
        have hj0 : (0 : Int) ≤ (j' : Int) := by omega
        have d3 : decide ((0 : Int) < (j : Int)) = true := by simp; omega
        clear hg hg' hX hZ hall hw h0 h1 hq has CB hj'
        cases q with
        | true =>
          go_wp2_with fail
          go_region_held3 (fun w' => w'.cell? ⟨b, off + j' * 2, none⟩ = some (.int .i64 z0) ∧ w'.cell? ⟨b, off + j' * 2 + 1, none⟩ = some (.int .i64 z1) ∧ w'.cell? ⟨b, off + j * 2, none⟩ = some (.int .i64 x0) ∧ w'.cell? ⟨b, off + j * 2 + 1, none⟩ = some (.int .i64 x1))
            (first | exact ⟨k0, k1, e0, e1⟩ | exact ⟨kept_cell hb1 k0, kept_cell hb1 k1, kept_cell hb1 e0, kept_cell hb1 e1⟩)
            (first | (go_at_call 149; refine (HC.out _).mono ?_; rintro r w1 ⟨rfl, hb1⟩))
          go_wp2_with fail
          go_roundw
          case rel => exact ⟨j + 1, by omega, by go_num, fun k hk => if e : k = j then by subst e; exact HAS.out else HA.out k (by omega), HW.out.trans ((Later.rfl' _).drew.trans hb1)⟩
          case measure => simp [intOf]; omega
        | false =>
          have HV : Hid (ascB l = false) := asc_false hlt HAS.out
          go_wp2_with fail
          go_region_held3 (fun w' => w'.cell? ⟨b, off + j' * 2, none⟩ = some (.int .i64 z0) ∧ w'.cell? ⟨b, off + j' * 2 + 1, none⟩ = some (.int .i64 z1) ∧ w'.cell? ⟨b, off + j * 2, none⟩ = some (.int .i64 x0) ∧ w'.cell? ⟨b, off + j * 2 + 1, none⟩ = some (.int .i64 x1))
            (first | exact ⟨k0, k1, e0, e1⟩ | exact ⟨kept_cell hb1 k0, kept_cell hb1 k1, kept_cell hb1 e0, kept_cell hb1 e1⟩)
            (first | (go_at_call 149; refine (HC.out _).mono ?_; rintro r w1 ⟨rfl, hb1⟩))
          go_wp2_with fail
          go_ret
          exact ⟨ret_bool HV.out.symm, HW.out.trans ((Later.rfl' _).drew.trans hb1)⟩
    · have HV : Hid (ascB l = true) := asc_true fun k hk => HA.out k (by omega)
      clear hall hw
      go_wp2
      go_ret
      exact ⟨ret_bool HV.out.symm, HW.out⟩
end Go.Proofs.Ytghemlokpfipoaa
namespace Go.Proofs.Ytghemlokpfipoaa
open Go.ChangeShapes Go.WideShapes Go.ChangeAt Go.RowKit
set_option linter.unusedVariables false
set_option linter.unusedSimpArgs false
set_option maxRecDepth 100000


set_option maxHeartbeats 2000000 in
theorem specTable (k n s : Int) (t : ByteArray) (l : List Vl) (cl : List ByteArray) (r : List Rw) (W : World) (S : Nat → Prop) (cs : List Value) (h : Ats W S (encV (.mk k n s t l cl r)) cs) : Calls Try.prog 98 #[.agg cs.toArray] W fun e w' => e = .returned (.bool (tableB cl r)) ∧ Later W w' := by
  obtain ⟨A1, c1, A2, c2, A3, c3, rfl, hb4, ⟨p1, q1⟩, ⟨p2, q2⟩, ⟨p3, q3⟩, g1, g2, g3⟩ := h.val
  have CC := fun W' (hW' : Later W W') => specColumns _ cl W' (sl_strs (g2.later hW'))
  have HR := Lib.hid g3
  have HCC := Lib.hid CC
  clear h g1 g2 g3 CC hb4
  cases hcb : colsB cl with
  | false =>
    rw [hcb] at HCC
    have HV : Hid (tableB cl r = false) := by unfold Hid tableB; rw [hcb]; rfl
    clear hcb
    go_enter Try.func98, Try.ntmps98
    go_wp2_with fail
    refine (HCC.out _ ((Later.rfl' _).alloc _)).mono ?_; rintro e w1 ⟨rfl, hb1⟩
    go_wp2_with fail
    go_ret
    exact ⟨ret_bool HV.out.symm, ((Later.rfl' _).alloc _).trans hb1⟩
  | true =>
  rw [hcb] at HCC
  by_cases h12 : r.length ≤ 12
  rotate_left
  · have HV : Hid (tableB cl r = false) := by unfold Hid tableB; simp [h12]
    have h12' : 12 < r.length := by omega
    clear hcb h12
    go_enter Try.func98, Try.ntmps98
    go_wp2_with fail
    refine (HCC.out _ ((Later.rfl' _).alloc _)).mono ?_; rintro e w1 ⟨rfl, hb1⟩
    have a6 := boxN hb1 (j := 6) rfl
    have HL := Lib.hid (((Later.rfl' _).alloc _).trans hb1)
    clear hb1
    go_wp2_with fail
    go_ret
    exact ⟨ret_bool HV.out.symm, HL.out⟩
  have HV : Hid (tableB cl r = r.all (rowB cl.length)) := by unfold Hid tableB; simp [hcb, h12]
  clear hcb
  go_enter Try.func98, Try.ntmps98
  go_wp2_with fail
  refine (HCC.out _ ((Later.rfl' _).alloc _)).mono ?_; rintro e w1 ⟨rfl, hb1⟩
  have a6 := boxN hb1 (j := 6) rfl
  have HL1 := Lib.hid hb1
  clear hb1
  go_wp2_with fail
  go_loopw [3] (fun i wr => ∃ j : Nat, j ≤ r.length ∧ i = .int .i64 j ∧ (∀ k, (hk : k < r.length) → k < j → rowB cl.length r[k] = true) ∧ Later (W.alloc (.cells #[.int .i64 k, .int .i64 n, .int .i64 s, .string t, .slice A1 l.length c1, .slice A2 cl.length c2, .slice A3 r.length c3] 28)) wr) (fun i _ => r.length - (intOf i).toNat)
  case atStart => exact ⟨0, Nat.zero_le _, rfl, fun k _ h => absurd h (by omega), HL1.out⟩
  case round =>
    clear HL1 a6
    obtain ⟨j, hj, rfl, hall, hw⟩ := hrel
    have a5 := boxN hw (j := 5) rfl
    have a6 := boxN hw (j := 6) rfl
    have HA := Lib.hid hall
    have HW := Lib.hid hw
    have HLW := Lib.hid (((Later.rfl' W).alloc _).trans hw)
    by_cases hlt : j < r.length
    · obtain ⟨b, off, B1, d1, B2, d2, rfl, hb, _, hx, e0, e1⟩ := (HR.out.later HLW.out).rowAt hlt
      obtain ⟨_, _, _, _, ee, ⟨y1, y2⟩, ⟨y3, y4⟩, u1, u2⟩ := hx.row
      simp only [List.cons.injEq, Value.slice.injEq, true_and, and_true] at ee
      obtain ⟨⟨rfl, rfl⟩, rfl, rfl⟩ := ee
      have CA := fun W' (hW' : Later wr W') => specAscending _ W' S _ (u2.later hW')
      have hz : W.heap.size < wr.heap.size := by have := hw.size; simp only [World.size_alloc] at this; omega
      obtain ⟨X, hX⟩ : ∃ x, x = r[j] := ⟨_, rfl⟩
      rw [← hX] at e0 e1 CA u1 y1 y3
      have HX := Lib.hid hX
      have HCA := Lib.hid CA
      have HI := Lib.hid u1
      clear hx u1 u2 hX CA hall hw
      by_cases hn : X.cells.length = cl.length
      rotate_left
      · have hn' : ((X.cells.length : Int) != (cl.length : Int)) = true := by simp; omega
        have HF : Hid (tableB cl r = false) := by unfold Hid; rw [HV.out]; exact all_false hlt (by rw [← HX.out]; simp [rowB, hn])
        clear hn
        go_wp2_with fail
        go_ret
        exact ⟨ret_bool HF.out.symm, HLW.out.alloc _⟩
      have hn' : ((X.cells.length : Int) != (cl.length : Int)) = false := by simp [hn]
      have HN := Lib.hid hn
      clear hn
      cases hasc : ascB X.from_ with
      | false =>
        rw [hasc] at HCA
        have HF : Hid (tableB cl r = false) := by unfold Hid; rw [HV.out]; exact all_false hlt (by rw [← HX.out]; simp [rowB, hasc])
        clear hasc
        go_wp2_with fail
        refine (HCA.out _ ((Later.rfl' _).alloc _)).mono ?_; rintro e w2 ⟨rfl, hb2⟩
        go_wp2_with fail
        go_ret
        exact ⟨ret_bool HF.out.symm, (HLW.out.alloc _).trans hb2⟩
      | true =>
      rw [hasc] at HCA
      have HS := Lib.hid hasc
      clear hasc
      go_wp2_with fail
      refine (HCA.out _ ((Later.rfl' _).alloc _)).mono ?_; rintro e w2 ⟨rfl, hb2⟩
      have f0 := boxN hb2 (j := 0) rfl
      have HB2 := Lib.hid hb2
      clear hb2
      go_wp2_with fail
      go_loopw [5] (fun i wi => ∃ m : Nat, m ≤ X.cells.length ∧ i = .int .i64 m ∧ (∀ k, (hk : k < X.cells.length) → k < m → numV X.cells[k] = true) ∧ Later (wr.alloc (.cells #[.slice B1 X.cells.length d1, .slice B2 X.from_.length d2] 79)) wi) (fun i _ => X.cells.length - (intOf i).toNat)
      case atStart => exact ⟨0, Nat.zero_le _, rfl, fun k _ h => absurd h (by omega), HB2.out⟩
      case round =>
        clear HB2 f0
        obtain ⟨m, hm, rfl, hall2, hw2⟩ := hrel
        have f0 := boxN hw2 (j := 0) rfl
        have HA2 := Lib.hid hall2
        have HW2 := Lib.hid hw2
        by_cases hlt2 : m < X.cells.length
        · obtain ⟨b', off', rfl, hb', _, g0, _⟩ := (HI.out.later (((Later.rfl' _).alloc _).trans hw2)).intAt hlt2
          have CN := fun W => specNumV X.cells[m] _ rfl W
          obtain ⟨Y, hY⟩ : ∃ y, y = X.cells[m] := ⟨_, rfl⟩
          rw [← hY] at g0
          simp only [← hY] at CN
          have HY := Lib.hid hY
          have HCN := Lib.hid CN
          clear hY CN hall2 hw2
          cases hq : numV Y with
          | true =>
            rw [hq] at HCN
            have HQ := Lib.hid hq
            clear hq
            go_wp2_with fail
            refine (HCN.out _).mono ?_; rintro e w3 ⟨rfl, rfl⟩
            go_wp2_with fail
            go_roundw
            case rel => exact ⟨m + 1, by omega, by go_num, fun k hk hkj => if e : k = m then by subst e; rw [← HY.out]; exact HQ.out else HA2.out k hk (by omega), HW2.out⟩
            case measure => simp [intOf]; omega
          | false =>
            rw [hq] at HCN
            have HF : Hid (tableB cl r = false) := by
              unfold Hid
              rw [HV.out]
              refine all_false hlt ?_
              rw [← HX.out]
              unfold rowB
              rw [all_false hlt2 (by rw [← HY.out]; exact hq)]
              simp
            clear hq
            go_wp2_with fail
            refine (HCN.out _).mono ?_; rintro e w3 ⟨rfl, rfl⟩
            go_wp2_with fail
            go_ret
            exact ⟨ret_bool HF.out.symm, (HLW.out.alloc _).trans HW2.out⟩
        · have HQ : Hid (rowB cl.length X = true) := by
            unfold Hid rowB
            rw [all_true fun k hk => HA2.out k hk (by omega), HS.out, HN.out]
            simp
          clear hall2 hw2 HA2
          go_wp2_with fail
          go_roundw
          case rel => exact ⟨j + 1, by omega, by go_num, fun k hk hkj => if e : k = j then by subst e; rw [← HX.out]; exact HQ.out else HA.out k hk (by omega), HW.out.trans (((Later.rfl' _).alloc _).trans HW2.out)⟩
          case measure => simp [intOf]; omega
    · have HF : Hid (tableB cl r = true) := by unfold Hid; rw [HV.out]; exact all_true fun k hk => HA.out k hk (by omega)
      clear hall hw
      go_wp2_with fail
      go_ret
      exact ⟨ret_bool HF.out.symm, HLW.out⟩
end Go.Proofs.Ytghemlokpfipoaa
