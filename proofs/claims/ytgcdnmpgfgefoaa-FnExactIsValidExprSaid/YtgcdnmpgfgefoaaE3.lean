/-
  Expressions: toExpr; eqExpr of the laws; EqualExpr: the walks.
-/
import Derived.Test.YtgcdnmpgfgefoaaE2
import Derived.Deep.QuietTactic
import Derived.BigQuiet
import Derived.StillTailTactics
import Derived.Outline
namespace Go.Proofs.Ytgcdnmpgfgefoaa
open Go.ChangeShapes Go.WideShapes Go.ChangeAt Go.RowKit
set_option linter.unusedVariables false
set_option linter.unusedSimpArgs false

theorem ExsAt.form {w : World} {S : Nat → Prop} {v : Value} {args : List Ex} (h : ExsAt w S v args) : ∃ A c, v = .slice A args.length c ∧ args.length ≤ c ∧ c ≤ 9223372036854775807 := by
  obtain ⟨A, c, F, e, h1, h2, _⟩ := h
  exact ⟨A, c, e, h1, h2⟩

theorem toExpr (w : World) (S : Nat → Prop) (e : Ex) (cs : List Value) (h : ExAt w S e cs) : ToQ w e cs := by
  refine ExAt.ind (Q := ToQ w) (fun k n t args v hk hn ht hE hcost W hW => ?_) h
  simp only [Ex.cost] at hcost
  have CS := fun W' (hW' : Later W W') => toExprS w S args v hE (by omega) W' (hW.trans hW')
  obtain ⟨A, c, rfl, hlc, hcm⟩ := hE.form
  clear hE
  have HC := Lib.hid CS
  clear CS
  go_enter Try.func12, Try.ntmps12
  go_wp2_with fail
  refine (HC.out _ ((((Later.rfl' _).alloc _).alloc _).alloc _)).mono ?_; rintro r w1 ⟨⟨A', c', rfl, hx⟩, hb1⟩
  have hs1 := hb1.size
  simp only [World.size_alloc] at hs1
  have g0 : w1.cell? ⟨W.heap.size + 1 + 1, 0, none⟩ = some (.int .i64 k) := kept_cell hb1 (by simp [go_sem])
  have z0 : w1.cell? ⟨W.heap.size + 1, 0, none⟩ = some (.int .i64 0) := kept_cell hb1 (by simp [go_sem])
  have y0 : w1.frozen? ⟨W.heap.size + 1, 0, none⟩ = false := kept_free hb1 (by simp) (by simp [go_sem])
  have g1 : w1.cell? ⟨W.heap.size + 1 + 1, 1, none⟩ = some (.int .i64 n) := kept_cell hb1 (by simp [go_sem])
  have z1 : w1.cell? ⟨W.heap.size + 1, 1, none⟩ = some (.int .i64 0) := kept_cell hb1 (by simp [go_sem])
  have y1 : w1.frozen? ⟨W.heap.size + 1, 1, none⟩ = false := kept_free hb1 (by simp) (by simp [go_sem])
  have g2 : w1.cell? ⟨W.heap.size + 1 + 1, 2, none⟩ = some (.string t) := kept_cell hb1 (by simp [go_sem])
  have z2 : w1.cell? ⟨W.heap.size + 1, 2, none⟩ = some (.string ⟨#[]⟩) := kept_cell hb1 (by simp [go_sem])
  have y2 : w1.frozen? ⟨W.heap.size + 1, 2, none⟩ = false := kept_free hb1 (by simp) (by simp [go_sem])
  have g3 : w1.cell? ⟨W.heap.size + 1 + 1, 3, none⟩ = some (.slice none 0 0) := kept_cell hb1 (by simp [go_sem])
  have z3 : w1.cell? ⟨W.heap.size + 1, 3, none⟩ = some (.slice none 0 0) := kept_cell hb1 (by simp [go_sem])
  have y3 : w1.frozen? ⟨W.heap.size + 1, 3, none⟩ = false := kept_free hb1 (by simp) (by simp [go_sem])
  have y4 : w1.frozen? ⟨W.heap.size + 1 + 1, 3, none⟩ = false := kept_free hb1 (by simp) (by simp [go_sem])
  have hl : Later W w1 := ((((Later.rfl' _).alloc _).alloc _).alloc _).trans hb1
  have HR : Hid (ExAt (setFrom (setFrom w1 (W.heap.size + 1 + 1) 3 [.slice A' args.length c']) (W.heap.size + 1) 0 [.int .i64 k, .int .i64 n, .string t, .slice A' args.length c']) (fun b => W.heap.size ≤ b) (.mk k n t args) [.int .i64 k, .int .i64 n, .string t, .slice A' args.length c'] ∧
      Later W (setFrom (setFrom w1 (W.heap.size + 1 + 1) 3 [.slice A' args.length c']) (W.heap.size + 1) 0 [.int .i64 k, .int .i64 n, .string t, .slice A' args.length c'])) := by
    refine ⟨ExAt.make hk hn ht (hx.keep fun b hs hlt => ?_), later_setFrom (by omega) _ _ _ (later_setFrom (by omega) _ _ _ hl)⟩
    simp only [World.size_alloc] at hs
    refine ⟨by omega, by rw [size_setFrom, size_setFrom]; exact hlt, ?_⟩
    rw [block_setFrom (by omega), block_setFrom (by omega)]
  clear hx hb1 hl
  go_wp2_with fail
  exact bodyPost_ret (v := .agg #[.int .i64 k, .int .i64 n, .string t, .slice A' args.length c']) (by simp [results, Try.results12, go_sem, z0, z1, z2, z3]) rfl ⟨⟨_, _, _, _, _, _, rfl, HR.out.1⟩, HR.out.2⟩

/-! eqExpr -/
def EqQ (f : FuncId) (w : World) (e : Ex) (cs : List Value) : Prop := ∀ (S : Nat → Prop) (e' : Ex) (cs' : List Value), ExAt w S e' cs' → ∀ W, Later w W →
  Calls Try.prog f #[.agg cs.toArray, .agg cs'.toArray] W fun r w' => r = .returned (.bool (e.eqv e')) ∧ Later W w'

theorem ExsAt.q {w : World} {S : Nat → Prop} {v : Value} {args : List Ex} (h : ExsAt w S v args) : ExsQ w S (fun _ _ => True) v args := h.with_ fun _ _ _ _ => trivial

theorem eqExprS (w : World) (S S' : Nat → Prop) (xs ys : List Ex) (v u : Value) (h : ExsQ w S (EqQ 14 w) v xs) (h' : ExsAt w S' u ys) (W : World) (hW : Later w W) :
    Calls Try.prog 34 #[v, u] W fun r w' => r = .returned (.bool (Ex.eqvs xs ys)) ∧ Later W w' := by
  obtain ⟨A, c, rfl, hlc, hcm⟩ := h.form
  obtain ⟨A', c', rfl, hlc', hcm'⟩ := h'.form
  have HE := Lib.hid h; clear h
  have HE' := Lib.hid h'.q; clear h'
  have HW := Lib.hid hW; clear hW
  by_cases hl : xs.length = ys.length
  · have hle : ((xs.length : Int) != (ys.length : Int)) = false := by simp [hl]
    have HL : Hid (xs.length = ys.length) := hl
    clear hl
    go_enter Try.func34, Try.ntmps34
    go_wp2
    go_loopw [5] (fun i wr => ∃ j : Nat, j ≤ xs.length ∧ i = .int .i64 j ∧ (∀ k, (h1 : k < xs.length) → (h2 : k < ys.length) → k < j → xs[k].eqv ys[k] = true) ∧ Later W wr) (fun i _ => xs.length - (intOf i).toNat)
    case atStart => exact ⟨0, Nat.zero_le _, rfl, fun k _ _ h => absurd h (by omega), Later.rfl' _⟩
    case round =>
      obtain ⟨j, hj, rfl, hall, hw⟩ := hrel
      have HA := Lib.hid hall
      clear hall
      by_cases hlt : j < xs.length
      · have hlt' : j < ys.length := by have := HL.out; omega
        have hw2 : Later w wr := HW.out.trans hw
        obtain ⟨b, off, y0, y1, y2, y3, y4, y5, rfl, hb, hx, hq, e0, e1, e2, e3⟩ := HE.out.at_ hw2 hlt
        obtain ⟨b', off', z0, z1, z2, z3, z4, z5, rfl, hb', hx', _, g0, g1, g2, g3⟩ := HE'.out.at_ hw2 hlt'
        have C := hq _ _ _ hx'
        obtain ⟨q, hq'⟩ : ∃ q, q = xs[j].eqv ys[j] := ⟨_, rfl⟩
        rw [← hq'] at C
        have HQ : Hid (q = xs[j].eqv ys[j]) := hq'
        have HC := Lib.hid C
        have HWL := Lib.hid hw2
        have HW2 := Lib.hid hw
        have hki : (j : Int) < (xs.length : Int) := by omega
        have hki' : (j : Int) < (ys.length : Int) := by omega
        clear C hq hx hx' hw2 hw hq'
        cases q with
        | true =>
          go_wp2
          go_still_tail 8, (by kernel_rfl)
          go_wp2_with fail
          refine (HC.out _ (HWL.out.trans (Later.rfl' _).drew)).mono ?_; rintro r w1 ⟨rfl, hb1⟩
          go_wp2_with fail
          go_roundw
          case rel => exact ⟨j + 1, by omega, by go_num, fun k h1 h2 hkj => if e : k = j then by subst e; exact HQ.out.symm else HA.out k h1 h2 (by omega), HW2.out.trans ((Later.rfl' _).drew.trans hb1)⟩
          case measure => simp [intOf]; omega
        | false =>
          have HV : Hid (Ex.eqvs xs ys = false) := eqvs_at hlt hlt' HQ.out.symm
          go_wp2
          go_still_tail 8, (by kernel_rfl)
          go_wp2_with fail
          refine (HC.out _ (HWL.out.trans (Later.rfl' _).drew)).mono ?_; rintro r w1 ⟨rfl, hb1⟩
          go_wp2_with fail
          go_ret
          exact ⟨ret_bool HV.out.symm, HW2.out.trans ((Later.rfl' _).drew.trans hb1)⟩
      · have HW2 := Lib.hid hw
        have HV : Hid (Ex.eqvs xs ys = true) := eqvs_all HL.out fun k h1 h2 => HA.out k h1 h2 (by omega)
        clear hw
        go_wp2
        go_ret
        exact ⟨ret_bool HV.out.symm, HW2.out⟩
  · have hle : ((xs.length : Int) != (ys.length : Int)) = true := by simp; omega
    have HV : Hid (Ex.eqvs xs ys = false) := eqvs_len hl
    clear hl
    go_enter Try.func34, Try.ntmps34
    go_wp2
    go_ret
    exact ⟨ret_bool HV.out.symm, Later.rfl' _⟩
end Go.Proofs.Ytgcdnmpgfgefoaa
