/-
  Expressions: HasEffect: the walks. The laws FnExactNodeCount, FnExactNestingOf, FnExactEqualExpr, FnExactHasEffect: their walks.
-/
import Derived.Test.YtgcdnmpgfgefoaaE4
namespace Go.Proofs.Ytgcdnmpgfgefoaa
open Go.ChangeShapes Go.WideShapes Go.ChangeAt Go.RowKit
set_option linter.unusedVariables false
set_option linter.unusedSimpArgs false

theorem eff_ways (k n : Int) (t : ByteArray) (args : List Ex) :
    (k = 5 ∧ ((t.toList == [99, 108, 111, 99, 107]) = true) ∧ Hid (Ex.hasEff (.mk k n t args) = true)) ∨
    (k = 5 ∧ ((t.toList == [99, 108, 111, 99, 107]) = false) ∧ ((t.toList == [99, 104, 97, 110, 99, 101]) = true) ∧ Hid (Ex.hasEff (.mk k n t args) = true)) ∨
    (k = 5 ∧ ((t.toList == [99, 108, 111, 99, 107]) = false) ∧ ((t.toList == [99, 104, 97, 110, 99, 101]) = false) ∧ ((t.toList == [102, 105, 108, 101]) = true) ∧ Hid (Ex.hasEff (.mk k n t args) = true)) ∨
    (k = 5 ∧ ((t.toList == [99, 108, 111, 99, 107]) = false) ∧ ((t.toList == [99, 104, 97, 110, 99, 101]) = false) ∧ ((t.toList == [102, 105, 108, 101]) = false) ∧ Hid (Ex.hasEff (.mk k n t args) = Ex.hasEffs args)) ∨
    ((k == 5) = false ∧ Hid (Ex.hasEff (.mk k n t args) = Ex.hasEffs args)) := by
  by_cases hk : k = 5
  · rcases Bool.eq_false_or_eq_true (t.toList == [99, 108, 111, 99, 107]) with h1 | h1
    · exact .inl ⟨hk, h1, by unfold Hid; simp [Ex.hasEff, hk, isEff, h1]⟩
    rcases Bool.eq_false_or_eq_true (t.toList == [99, 104, 97, 110, 99, 101]) with h2 | h2
    · exact .inr (.inl ⟨hk, h1, h2, by unfold Hid; simp [Ex.hasEff, hk, isEff, h1, h2]⟩)
    rcases Bool.eq_false_or_eq_true (t.toList == [102, 105, 108, 101]) with h3 | h3
    · exact .inr (.inr (.inl ⟨hk, h1, h2, h3, by unfold Hid; simp [Ex.hasEff, hk, isEff, h1, h2, h3]⟩))
    · exact .inr (.inr (.inr (.inl ⟨hk, h1, h2, h3, by unfold Hid; simp [Ex.hasEff, hk, isEff, h1, h2, h3]⟩)))
  · exact .inr (.inr (.inr (.inr ⟨by simpa using hk, by unfold Hid; simp [Ex.hasEff, hk]⟩)))

def EffQ (f : FuncId) (w : World) (e : Ex) (cs : List Value) : Prop := ∀ W, Later w W → Calls Try.prog f #[.agg cs.toArray] W fun r w' => r = .returned (.bool e.hasEff) ∧ Later W w'


theorem implisEffect (t : ByteArray) (W : World) : Calls Try.prog 36 #[.string t] W fun r w' => r = .returned (.bool (isEff t)) ∧ W = w' := by
  rcases eff_ways 5 0 t [] with ⟨_, h1, HV⟩ | ⟨_, h1, h2, HV⟩ | ⟨_, h1, h2, h3, HV⟩ | ⟨_, h1, h2, h3, HV⟩ | ⟨h1, HV⟩
  · have hv : isEff t = true := by simp [isEff, h1]
    have HV := Lib.hid hv; clear hv
    go_enter Try.func36, Try.ntmps36
    go_wp2
    go_ret
    exact ⟨ret_bool HV.out.symm, rfl⟩
  · have hv : isEff t = true := by simp [isEff, h1, h2]
    have HV := Lib.hid hv; clear hv
    go_enter Try.func36, Try.ntmps36
    go_wp2
    go_ret
    exact ⟨ret_bool HV.out.symm, rfl⟩
  · have hv : isEff t = true := by simp [isEff, h1, h2, h3]
    have HV := Lib.hid hv; clear hv
    go_enter Try.func36, Try.ntmps36
    go_wp2
    go_ret
    exact ⟨ret_bool HV.out.symm, rfl⟩
  · have hv : isEff t = false := by simp [isEff, h1, h2, h3]
    have HV := Lib.hid hv; clear hv
    go_enter Try.func36, Try.ntmps36
    go_wp2
    go_ret
    exact ⟨ret_bool HV.out.symm, rfl⟩
  · cases h1
theorem eff_ways3 (k n : Int) (t : ByteArray) (args : List Ex) :
    (k = 5 ∧ Hid (isEff t = true) ∧ Hid (Ex.hasEff (.mk k n t args) = true)) ∨
    (k = 5 ∧ Hid (isEff t = false) ∧ Hid (Ex.hasEff (.mk k n t args) = Ex.hasEffs args)) ∨
    ((k == 5) = false ∧ Hid (Ex.hasEff (.mk k n t args) = Ex.hasEffs args)) := by
  unfold Hid
  by_cases hk : k = 5
  · cases he : isEff t with
    | true => exact .inl ⟨hk, rfl, by simp [Ex.hasEff, hk, he]⟩
    | false => exact .inr (.inl ⟨hk, rfl, by simp [Ex.hasEff, hk, he]⟩)
  · exact .inr (.inr ⟨by simpa using hk, by simp [Ex.hasEff, hk]⟩)


theorem specHasEffect (w : World) (S : Nat → Prop) (e : Ex) (cs : List Value) (h : ExAt w S e cs) : EffQ 19 w e cs := by
  refine ExAt.ind (Q := EffQ 19 w) (fun k n t args v hk hn ht hE W hW => ?_) h
  obtain ⟨A, c, rfl, hlc, hcm⟩ := hE.form
  have HE := Lib.hid hE; clear hE
  have HW := Lib.hid hW; clear hW
  rcases eff_ways k n t args with ⟨rfl, h1, HV⟩ | ⟨rfl, h1, h2, HV⟩ | ⟨rfl, h1, h2, h3, HV⟩ | ⟨rfl, h1, h2, h3, HV⟩ | ⟨h1, HV⟩
  case inl =>
    go_enter Try.func19, Try.ntmps19
    go_wp2
    go_ret
    exact ⟨ret_bool HV.out.symm, (Later.rfl' _).alloc _⟩
  case inr.inl =>
    go_enter Try.func19, Try.ntmps19
    go_wp2
    go_ret
    exact ⟨ret_bool HV.out.symm, (Later.rfl' _).alloc _⟩
  case inr.inr.inl =>
    go_enter Try.func19, Try.ntmps19
    go_wp2
    go_ret
    exact ⟨ret_bool HV.out.symm, (Later.rfl' _).alloc _⟩
  case inr.inr.inr.inl =>
    go_enter Try.func19, Try.ntmps19
    go_wp2
    go_loopw [3] (fun i wr => ∃ j : Nat, j ≤ args.length ∧ i = .int .i64 j ∧ Ex.hasEffs (args.take j) = false ∧ Later (W.alloc (.cells #[.int .i64 5, .int .i64 n, .string t, .slice A args.length c] 29)) wr) (fun i _ => args.length - (intOf i).toNat)
    case atStart => exact ⟨0, Nat.zero_le _, rfl, by simp [Ex.hasEffs], Later.rfl' _⟩
    case round =>
      obtain ⟨j, hj, rfl, hall, hw⟩ := hrel
      obtain ⟨a0, a1, a2, a3⟩ := box4 hw
      have HA := Lib.hid hall
      clear hall
      by_cases hlt : j < args.length
      · have hw2 : Later w wr := HW.out.trans (((Later.rfl' _).alloc _).trans hw)
        obtain ⟨b, off, y0, y1, y2, y3, y4, y5, rfl, hb, hx, hq, e0, e1, e2, e3⟩ := HE.out.at_ hw2 hlt
        have hs := hasEffs_succ hlt
        rw [HA.out, Bool.false_or] at hs
        have hs2 : Ex.hasEffs args = (Ex.hasEffs (args.take (j + 1)) || Ex.hasEffs (args.drop (j + 1))) := by rw [← hasEffs_append, List.take_append_drop]
        have C := hq
        unfold EffQ at C
        obtain ⟨q, hq'⟩ : ∃ q, q = args[j].hasEff := ⟨_, rfl⟩
        rw [← hq'] at C hs
        have HC := Lib.hid C
        have HWL := Lib.hid hw2
        have HW2 := Lib.hid hw
        have HS := Lib.hid hs
        have HS2 := Lib.hid hs2
        clear C hq hx hw2 hw hq' hs hs2
        cases q with
        | true =>
          have HF : Hid (Ex.hasEffs args = true) := by unfold Hid; rw [HS2.out, HS.out]; rfl
          go_wp2_with fail
          refine (HC.out _ (HWL.out)).mono ?_; rintro r w1 ⟨rfl, hb1⟩
          go_wp2_with fail
          go_ret
          exact ⟨ret_bool (HV.out.trans HF.out).symm, ((Later.rfl' _).alloc _).trans (HW2.out.trans (hb1))⟩
        | false =>
          go_wp2_with fail
          refine (HC.out _ (HWL.out)).mono ?_; rintro r w1 ⟨rfl, hb1⟩
          go_wp2_with fail
          go_roundw
          case rel => exact ⟨j + 1, by omega, by go_num, HS.out, HW2.out.trans (hb1)⟩
          case measure => simp [intOf]; omega
      · have HW2 := Lib.hid hw
        have HF : Hid (Ex.hasEffs args = false) := by
          have e : args.take j = args := List.take_of_length_le (by omega)
          have := HA.out
          rw [e] at this
          exact this
        clear hw
        go_wp2
        go_ret
        exact ⟨ret_bool (HV.out.trans HF.out).symm, ((Later.rfl' _).alloc _).trans HW2.out⟩
  case inr.inr.inr.inr =>
    go_enter Try.func19, Try.ntmps19
    go_wp2
    go_loopw [3] (fun i wr => ∃ j : Nat, j ≤ args.length ∧ i = .int .i64 j ∧ Ex.hasEffs (args.take j) = false ∧ Later (W.alloc (.cells #[.int .i64 k, .int .i64 n, .string t, .slice A args.length c] 29)) wr) (fun i _ => args.length - (intOf i).toNat)
    case atStart => exact ⟨0, Nat.zero_le _, rfl, by simp [Ex.hasEffs], Later.rfl' _⟩
    case round =>
      obtain ⟨j, hj, rfl, hall, hw⟩ := hrel
      obtain ⟨a0, a1, a2, a3⟩ := box4 hw
      have HA := Lib.hid hall
      clear hall
      by_cases hlt : j < args.length
      · have hw2 : Later w wr := HW.out.trans (((Later.rfl' _).alloc _).trans hw)
        obtain ⟨b, off, y0, y1, y2, y3, y4, y5, rfl, hb, hx, hq, e0, e1, e2, e3⟩ := HE.out.at_ hw2 hlt
        have hs := hasEffs_succ hlt
        rw [HA.out, Bool.false_or] at hs
        have hs2 : Ex.hasEffs args = (Ex.hasEffs (args.take (j + 1)) || Ex.hasEffs (args.drop (j + 1))) := by rw [← hasEffs_append, List.take_append_drop]
        have C := hq
        unfold EffQ at C
        obtain ⟨q, hq'⟩ : ∃ q, q = args[j].hasEff := ⟨_, rfl⟩
        rw [← hq'] at C hs
        have HC := Lib.hid C
        have HWL := Lib.hid hw2
        have HW2 := Lib.hid hw
        have HS := Lib.hid hs
        have HS2 := Lib.hid hs2
        clear C hq hx hw2 hw hq' hs hs2
        cases q with
        | true =>
          have HF : Hid (Ex.hasEffs args = true) := by unfold Hid; rw [HS2.out, HS.out]; rfl
          go_wp2_with fail
          refine (HC.out _ (HWL.out)).mono ?_; rintro r w1 ⟨rfl, hb1⟩
          go_wp2_with fail
          go_ret
          exact ⟨ret_bool (HV.out.trans HF.out).symm, ((Later.rfl' _).alloc _).trans (HW2.out.trans (hb1))⟩
        | false =>
          go_wp2_with fail
          refine (HC.out _ (HWL.out)).mono ?_; rintro r w1 ⟨rfl, hb1⟩
          go_wp2_with fail
          go_roundw
          case rel => exact ⟨j + 1, by omega, by go_num, HS.out, HW2.out.trans (hb1)⟩
          case measure => simp [intOf]; omega
      · have HW2 := Lib.hid hw
        have HF : Hid (Ex.hasEffs args = false) := by
          have e : args.take j = args := List.take_of_length_le (by omega)
          have := HA.out
          rw [e] at this
          exact this
        clear hw
        go_wp2
        go_ret
        exact ⟨ret_bool (HV.out.trans HF.out).symm, ((Later.rfl' _).alloc _).trans HW2.out⟩

theorem implHasEffect (w : World) (S : Nat → Prop) (e : Ex) (cs : List Value) (h : ExAt w S e cs) : EffQ 20 w e cs := by
  refine ExAt.ind (Q := EffQ 20 w) (fun k n t args v hk hn ht hE W hW => ?_) h
  obtain ⟨A, c, rfl, hlc, hcm⟩ := hE.form
  have HE := Lib.hid hE; clear hE
  have HW := Lib.hid hW; clear hW
  rcases eff_ways3 k n t args with ⟨rfl, h1, HV⟩ | ⟨rfl, h1, HV⟩ | ⟨h1, HV⟩
  case inl =>
    have CE := fun W => implisEffect t W
    rw [h1.out] at CE
    have HCE := Lib.hid CE; clear CE
    go_enter Try.func20, Try.ntmps20
    go_wp2_with fail
    refine (HCE.out _).mono ?_; rintro r w1 ⟨rfl, rfl⟩
    go_wp2_with fail
    go_ret
    exact ⟨ret_bool HV.out.symm, (Later.rfl' _).alloc _⟩
  case inr.inl =>
    have CE := fun W => implisEffect t W
    rw [h1.out] at CE
    have HCE := Lib.hid CE; clear CE
    go_enter Try.func20, Try.ntmps20
    go_wp2_with fail
    refine (HCE.out _).mono ?_; rintro r w1 ⟨rfl, rfl⟩
    go_wp2_with fail
    go_loopw [16] (fun i wr => ∃ j : Nat, j ≤ args.length ∧ i = .int .i64 j ∧ Ex.hasEffs (args.take j) = false ∧ Later (W.alloc (.cells #[.int .i64 5, .int .i64 n, .string t, .slice A args.length c] 29)) wr) (fun i _ => args.length - (intOf i).toNat)
    case atStart => exact ⟨0, Nat.zero_le _, rfl, by simp [Ex.hasEffs], Later.rfl' _⟩
    case round =>
      obtain ⟨j, hj, rfl, hall, hw⟩ := hrel
      obtain ⟨a0, a1, a2, a3⟩ := box4 hw
      have HA := Lib.hid hall
      clear hall
      by_cases hlt : j < args.length
      · have hw2 : Later w wr := HW.out.trans (((Later.rfl' _).alloc _).trans hw)
        obtain ⟨b, off, y0, y1, y2, y3, y4, y5, rfl, hb, hx, hq, e0, e1, e2, e3⟩ := HE.out.at_ hw2 hlt
        have hs := hasEffs_succ hlt
        rw [HA.out, Bool.false_or] at hs
        have hs2 : Ex.hasEffs args = (Ex.hasEffs (args.take (j + 1)) || Ex.hasEffs (args.drop (j + 1))) := by rw [← hasEffs_append, List.take_append_drop]
        have C := hq
        unfold EffQ at C
        obtain ⟨q, hq'⟩ : ∃ q, q = args[j].hasEff := ⟨_, rfl⟩
        rw [← hq'] at C hs
        have HC := Lib.hid C
        have HWL := Lib.hid hw2
        have HW2 := Lib.hid hw
        have HS := Lib.hid hs
        have HS2 := Lib.hid hs2
        clear C hq hx hw2 hw hq' hs hs2
        cases q with
        | true =>
          have HF : Hid (Ex.hasEffs args = true) := by unfold Hid; rw [HS2.out, HS.out]; rfl
          go_wp2_with fail
          refine (HC.out _ (HWL.out.alloc _)).mono ?_; rintro r w1 ⟨rfl, hb1⟩
          go_wp2_with fail
          go_ret
          exact ⟨ret_bool (HV.out.trans HF.out).symm, ((Later.rfl' _).alloc _).trans (HW2.out.trans (((Later.rfl' _).alloc _).trans hb1))⟩
        | false =>
          go_wp2_with fail
          refine (HC.out _ (HWL.out.alloc _)).mono ?_; rintro r w1 ⟨rfl, hb1⟩
          go_wp2_with fail
          go_roundw
          case rel => exact ⟨j + 1, by omega, by go_num, HS.out, HW2.out.trans (((Later.rfl' _).alloc _).trans hb1)⟩
          case measure => simp [intOf]; omega
      · have HW2 := Lib.hid hw
        have HF : Hid (Ex.hasEffs args = false) := by
          have e : args.take j = args := List.take_of_length_le (by omega)
          have := HA.out
          rw [e] at this
          exact this
        clear hw
        go_wp2
        go_ret
        exact ⟨ret_bool (HV.out.trans HF.out).symm, ((Later.rfl' _).alloc _).trans HW2.out⟩
  case inr.inr =>
    go_enter Try.func20, Try.ntmps20
    go_wp2_with fail
    go_loopw [16] (fun i wr => ∃ j : Nat, j ≤ args.length ∧ i = .int .i64 j ∧ Ex.hasEffs (args.take j) = false ∧ Later (W.alloc (.cells #[.int .i64 k, .int .i64 n, .string t, .slice A args.length c] 29)) wr) (fun i _ => args.length - (intOf i).toNat)
    case atStart => exact ⟨0, Nat.zero_le _, rfl, by simp [Ex.hasEffs], Later.rfl' _⟩
    case round =>
      obtain ⟨j, hj, rfl, hall, hw⟩ := hrel
      obtain ⟨a0, a1, a2, a3⟩ := box4 hw
      have HA := Lib.hid hall
      clear hall
      by_cases hlt : j < args.length
      · have hw2 : Later w wr := HW.out.trans (((Later.rfl' _).alloc _).trans hw)
        obtain ⟨b, off, y0, y1, y2, y3, y4, y5, rfl, hb, hx, hq, e0, e1, e2, e3⟩ := HE.out.at_ hw2 hlt
        have hs := hasEffs_succ hlt
        rw [HA.out, Bool.false_or] at hs
        have hs2 : Ex.hasEffs args = (Ex.hasEffs (args.take (j + 1)) || Ex.hasEffs (args.drop (j + 1))) := by rw [← hasEffs_append, List.take_append_drop]
        have C := hq
        unfold EffQ at C
        obtain ⟨q, hq'⟩ : ∃ q, q = args[j].hasEff := ⟨_, rfl⟩
        rw [← hq'] at C hs
        have HC := Lib.hid C
        have HWL := Lib.hid hw2
        have HW2 := Lib.hid hw
        have HS := Lib.hid hs
        have HS2 := Lib.hid hs2
        clear C hq hx hw2 hw hq' hs hs2
        cases q with
        | true =>
          have HF : Hid (Ex.hasEffs args = true) := by unfold Hid; rw [HS2.out, HS.out]; rfl
          go_wp2_with fail
          refine (HC.out _ (HWL.out.alloc _)).mono ?_; rintro r w1 ⟨rfl, hb1⟩
          go_wp2_with fail
          go_ret
          exact ⟨ret_bool (HV.out.trans HF.out).symm, ((Later.rfl' _).alloc _).trans (HW2.out.trans (((Later.rfl' _).alloc _).trans hb1))⟩
        | false =>
          go_wp2_with fail
          refine (HC.out _ (HWL.out.alloc _)).mono ?_; rintro r w1 ⟨rfl, hb1⟩
          go_wp2_with fail
          go_roundw
          case rel => exact ⟨j + 1, by omega, by go_num, HS.out, HW2.out.trans (((Later.rfl' _).alloc _).trans hb1)⟩
          case measure => simp [intOf]; omega
      · have HW2 := Lib.hid hw
        have HF : Hid (Ex.hasEffs args = false) := by
          have e : args.take j = args := List.take_of_length_le (by omega)
          have := HA.out
          rw [e] at this
          exact this
        clear hw
        go_wp2
        go_ret
        exact ⟨ret_bool (HV.out.trans HF.out).symm, ((Later.rfl' _).alloc _).trans HW2.out⟩
end Go.Proofs.Ytgcdnmpgfgefoaa
