/-
  Expressions: eqExpr of the laws; EqualExpr, HasEffect: the walks.
-/
import Derived.Test.YtghemlokpfipoaaYE3
namespace Go.Proofs.Ytghemlokpfipoaa
open Go.ChangeShapes Go.WideShapes Go.ChangeAt Go.RowKit
set_option linter.unusedVariables false
set_option linter.unusedSimpArgs false
set_option maxRecDepth 100000

theorem eqv_kind {k k' n n' : Int} {t t' : ByteArray} {a a' : List Ex} (h : k ≠ k') : Ex.eqv (.mk k n t a) (.mk k' n' t' a') = false := by simp [Ex.eqv, h]
theorem eqv_n {k k' n n' : Int} {t t' : ByteArray} {a a' : List Ex} (h : n ≠ n') : Ex.eqv (.mk k n t a) (.mk k' n' t' a') = false := by simp [Ex.eqv, h]
theorem eqv_text {k k' n n' : Int} {t t' : ByteArray} {a a' : List Ex} (h : t ≠ t') : Ex.eqv (.mk k n t a) (.mk k' n' t' a') = false := by simp [Ex.eqv, h]
theorem eqv_len {k k' n n' : Int} {t t' : ByteArray} {a a' : List Ex} (h : a.length ≠ a'.length) : Ex.eqv (.mk k n t a) (.mk k' n' t' a') = false := by simp [Ex.eqv, eqvs_len h]
theorem eqv_same {k n : Int} {t : ByteArray} {a a' : List Ex} : Ex.eqv (.mk k n t a) (.mk k n t a') = Ex.eqvs a a' := by simp [Ex.eqv]
theorem text_ne {t t' : ByteArray} (h : t ≠ t') : (t.toList == t'.toList) = false := by rw [beq_toList]; simpa using h

/-- The cells of two structs that were laid in variables, one behind the other. -/
theorem box44 {w w1 : World} {t : TypeId} {c0 c1 c2 c3 d0 d1 d2 d3 : Value} (hb : Later ((w.alloc (.cells #[c0, c1, c2, c3] t)).alloc (.cells #[d0, d1, d2, d3] t)) w1) :
    w1.cell? ⟨w.heap.size, 3, none⟩ = some c3 ∧ w1.cell? ⟨w.heap.size + 1, 3, none⟩ = some d3 := by
  constructor
  · exact (Below.cell hb (p := ⟨w.heap.size, 3, none⟩) (by simp; omega)).trans (by simp [go_sem])
  · exact (Below.cell hb (p := ⟨w.heap.size + 1, 3, none⟩) (by simp)).trans (by simp [go_sem])

theorem implEqualExpr (w : World) (S : Nat → Prop) (e : Ex) (cs : List Value) (h : ExAt w S e cs) : ExEqQ 59 w e cs := by
  refine ExAt.ind (Q := ExEqQ 59 w) (fun k n t args v hk hn ht hE S' e' cs' h' W hW => ?_) h
  obtain ⟨k', n', t', args'⟩ := e'
  obtain ⟨u, rfl, hk', hn', ht', hE'⟩ := h'.parts
  clear h'
  obtain ⟨A, c, rfl, hlc, hcm⟩ := hE.form
  obtain ⟨A', c', rfl, hlc', hcm'⟩ := hE'.form
  by_cases e1 : k = k'
  · subst e1
    by_cases e2 : n = n'
    · subst e2
      by_cases e3 : t = t'
      · subst e3
        by_cases e4 : args.length = args'.length
        · have HL := Lib.hid e4
          have hle : ((args.length : Int) != (args'.length : Int)) = false := by simp [e4]
          have HV := Lib.hid (eqv_same (k := k) (n := n) (t := t) (a := args) (a' := args'))
          have HE := Lib.hid hE
          have HE' := Lib.hid hE'.q
          have HW := Lib.hid hW
          clear e4 hE hE' hW
          go_enter Try.func59, Try.ntmps59
          go_wp2
          go_loopw [37] (fun i wr => ∃ j : Nat, j ≤ args.length ∧ i = .int .i64 j ∧ (∀ k, (h1 : k < args.length) → (h2 : k < args'.length) → k < j → args[k].eqv args'[k] = true) ∧
            Later ((W.alloc (.cells #[.int .i64 k, .int .i64 n, .string t, .slice A args.length c] 67)).alloc (.cells #[.int .i64 k, .int .i64 n, .string t, .slice A' args'.length c'] 67)) wr) (fun i _ => args.length - (intOf i).toNat)
          case atStart => exact ⟨0, Nat.zero_le _, rfl, fun k _ _ h => absurd h (by omega), Later.rfl' _⟩
          case round =>
            obtain ⟨j, hj, rfl, hall, hw⟩ := hrel
            obtain ⟨p3, q3⟩ := box44 hw
            have HA := Lib.hid hall
            clear hall
            by_cases hlt : j < args.length
            · have hlt' : j < args'.length := by have := HL.out; omega
              have hw2 : Later w wr := HW.out.trans ((((Later.rfl' _).alloc _).alloc _).trans hw)
              obtain ⟨b, off, y0, y1, y2, y3, y4, y5, rfl, hb, hx, hq, e0, e1, e2, e3⟩ := HE.out.at_ hw2 hlt
              obtain ⟨b', off', z0, z1, z2, z3, z4, z5, rfl, hb', hx', _, g0, g1, g2, g3⟩ := HE'.out.at_ hw2 hlt'
              have C := hq _ _ _ hx'
              obtain ⟨q, hq'⟩ : ∃ q, q = args[j].eqv args'[j] := ⟨_, rfl⟩
              rw [← hq'] at C
              have HQ : Hid (q = args[j].eqv args'[j]) := hq'
              have HC := Lib.hid C
              have HWL := Lib.hid hw2
              have HW2 := Lib.hid hw
              have hki : (j : Int) < (args.length : Int) := by omega
              have hki' : (j : Int) < (args'.length : Int) := by omega
              clear C hq hx hx' hw2 hw hq'
              cases q with
              | true =>
                go_wp2
                go_still_tail 10, (by kernel_rfl)
                go_wp2_with fail
                refine (HC.out _ (HWL.out.trans (Later.rfl' _).drew)).mono ?_; rintro r w1 ⟨rfl, hb1⟩
                go_wp2_with fail
                go_roundw
                case rel => exact ⟨j + 1, by omega, by go_num, fun k h1 h2 hkj => if e : k = j then by subst e; exact HQ.out.symm else HA.out k h1 h2 (by omega), HW2.out.trans ((Later.rfl' _).drew.trans hb1)⟩
                case measure => simp [intOf]; omega
              | false =>
                have HF : Hid (Ex.eqvs args args' = false) := eqvs_at hlt hlt' HQ.out.symm
                go_wp2
                go_still_tail 10, (by kernel_rfl)
                go_wp2_with fail
                refine (HC.out _ (HWL.out.trans (Later.rfl' _).drew)).mono ?_; rintro r w1 ⟨rfl, hb1⟩
                go_wp2_with fail
                go_ret
                exact ⟨ret_bool (HV.out.trans HF.out).symm, (((Later.rfl' _).alloc _).alloc _).trans (HW2.out.trans ((Later.rfl' _).drew.trans hb1))⟩
            · have HW2 := Lib.hid hw
              have HF : Hid (Ex.eqvs args args' = true) := eqvs_all HL.out fun k h1 h2 => HA.out k h1 h2 (by omega)
              clear hw
              go_wp2
              go_ret
              exact ⟨ret_bool (HV.out.trans HF.out).symm, (((Later.rfl' _).alloc _).alloc _).trans HW2.out⟩
        · have HV := Lib.hid (eqv_len (k := k) (k' := k) (n := n) (n' := n) (t := t) (t' := t) e4)
          have hle : ((args.length : Int) != (args'.length : Int)) = true := by simp; omega
          clear hE hE' e4
          go_enter Try.func59, Try.ntmps59
          go_wp2_with fail
          go_ret
          exact ⟨ret_bool HV.out.symm, ((Later.rfl' _).alloc _).alloc _⟩
      · have HV := Lib.hid (eqv_text (k := k) (k' := k) (n := n) (n' := n) (a := args) (a' := args') e3)
        have e3' := text_ne e3
        clear e3 hE hE'
        go_enter Try.func59, Try.ntmps59
        go_wp2_with fail
        go_ret
        exact ⟨ret_bool HV.out.symm, ((Later.rfl' _).alloc _).alloc _⟩
    · have HV := Lib.hid (eqv_n (k := k) (k' := k) (t := t) (t' := t') (a := args) (a' := args') e2)
      have e2' : (n != n') = true := by simpa using e2
      clear e2 hE hE'
      go_enter Try.func59, Try.ntmps59
      go_wp2_with fail
      go_ret
      exact ⟨ret_bool HV.out.symm, ((Later.rfl' _).alloc _).alloc _⟩
  · have HV := Lib.hid (eqv_kind (n := n) (n' := n') (t := t) (t' := t') (a := args) (a' := args') e1)
    have e1' : (k != k') = true := by simpa using e1
    clear e1 hE hE'
    go_enter Try.func59, Try.ntmps59
    go_wp2_with fail
    go_ret
    exact ⟨ret_bool HV.out.symm, ((Later.rfl' _).alloc _).alloc _⟩
end Go.Proofs.Ytghemlokpfipoaa
