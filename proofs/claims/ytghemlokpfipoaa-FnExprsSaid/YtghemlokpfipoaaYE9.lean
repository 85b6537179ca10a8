/-
  Expressions: all nodes are valid; what is left of a count; IsValidExpr: the walks.
-/
import Derived.Test.YtghemlokpfipoaaYE8
namespace Go.Proofs.Ytghemlokpfipoaa
open Go.ChangeShapes Go.WideShapes Go.ChangeAt Go.RowKit
set_option linter.unusedVariables false
set_option linter.unusedSimpArgs false
set_option maxRecDepth 100000

mutual
def Ex.okAll : Ex → Bool
  | .mk k n t args => Ex.okAlls args && nodeOK k n t args.length
def Ex.okAlls : List Ex → Bool
  | [] => true
  | e :: es => e.okAll && Ex.okAlls es
end
theorem okAlls_append (a b : List Ex) : Ex.okAlls (a ++ b) = (Ex.okAlls a && Ex.okAlls b) := by
  induction a with
  | nil => simp [Ex.okAlls]
  | cons e es ih => simp only [List.cons_append, Ex.okAlls, ih, Bool.and_assoc]
theorem okAlls_succ {args : List Ex} {k : Nat} (hk : k < args.length) : Ex.okAlls (args.take (k + 1)) = (Ex.okAlls (args.take k) && args[k].okAll) := by
  rw [take_succ_ex hk, okAlls_append]; simp [Ex.okAlls]
theorem costs_at {args : List Ex} {k : Nat} (hk : k < args.length) : args[k].cost ≤ Ex.costs args := by
  have h1 := costs_succ hk
  have h2 := costs_le args (k + 1)
  omega

def OkQ (f : FuncId) (w : World) (e : Ex) (cs : List Value) : Prop := e.cost ≤ 1048576 → ∀ W, Later w W → Calls Try.prog f #[.agg cs.toArray] W fun r w' => r = .returned (.bool e.okAll) ∧ Later W w'


set_option maxHeartbeats 1000000 in
theorem specl10All (w : World) (S : Nat → Prop) (e : Ex) (cs : List Value) (h : ExAt w S e cs) : OkQ 123 w e cs := by
  refine ExAt.ind (Q := OkQ 123 w) (fun k n t args v hk hn ht hE hcost W hW => ?_) h
  obtain ⟨A, c, rfl, hlc, hcm⟩ := hE.form
  have HV : Hid (Ex.okAll (.mk k n t args) = (Ex.okAlls args && nodeOK k n t args.length)) := by unfold Hid; simp [Ex.okAll]
  simp only [Ex.cost] at hcost
  have ht2 : t.size ≤ maxLen := by simp only [maxLen]; omega
  have CN := fun W => specl10Node k n t A args.length c W ht2 (by omega)
  obtain ⟨B, hB⟩ : ∃ B, B = nodeOK k n t args.length := ⟨_, rfl⟩
  rw [← hB] at CN HV
  have HCN := Lib.hid CN
  have HC2 : Hid (Ex.costs args ≤ 1048576) := by unfold Hid; omega
  have HE := Lib.hid hE; clear hE
  have HW := Lib.hid hW; clear hW
  clear CN hB ht2 hcost
  go_enter Try.func123, Try.ntmps123
  go_wp2_with fail
  go_loopw [3] (fun i wr => ∃ j : Nat, j ≤ args.length ∧ i = .int .i64 j ∧ Ex.okAlls (args.take j) = true ∧ Later (W.alloc (.cells #[.int .i64 k, .int .i64 n, .string t, .slice A args.length c] 67)) wr) (fun i _ => args.length - (intOf i).toNat)
  case atStart => exact ⟨0, Nat.zero_le _, rfl, by simp [Ex.okAlls], Later.rfl' _⟩
  case round =>
    obtain ⟨j, hj, rfl, hall, hw⟩ := hrel
    obtain ⟨a0, a1, a2, a3⟩ := box4 hw
    have HA := Lib.hid hall
    clear hall
    by_cases hlt : j < args.length
    · have hw2 : Later w wr := HW.out.trans (((Later.rfl' _).alloc _).trans hw)
      have hca := costs_at hlt
      obtain ⟨b, off, y0, y1, y2, y3, y4, y5, rfl, hb, hx, hq, e0, e1, e2, e3⟩ := HE.out.at_ hw2 hlt
      have hs := okAlls_succ hlt
      rw [HA.out, Bool.true_and] at hs
      have hs2 : Ex.okAlls args = (Ex.okAlls (args.take (j + 1)) && Ex.okAlls (args.drop (j + 1))) := by rw [← okAlls_append, List.take_append_drop]
      have C := hq
      unfold OkQ at C
      have C := C (Nat.le_trans hca HC2.out)
      obtain ⟨q, hq'⟩ : ∃ q, q = args[j].okAll := ⟨_, rfl⟩
      rw [← hq'] at C hs
      have HC := Lib.hid C
      have HWL := Lib.hid hw2
      have HW2 := Lib.hid hw
      have HS := Lib.hid hs
      have HS2 := Lib.hid hs2
      clear C hq hx hw2 hw hq' hs hs2 hca
      cases q with
      | false =>
        have HF : Hid (Ex.okAlls args = false) := by unfold Hid; rw [HS2.out, HS.out]; rfl
        go_wp2_with fail
        refine (HC.out _ (HWL.out)).mono ?_; rintro r w1 ⟨rfl, hb1⟩
        go_wp2_with fail
        go_ret
        exact ⟨ret_bool (by rw [HV.out, HF.out]; rfl), ((Later.rfl' _).alloc _).trans (HW2.out.trans (hb1))⟩
      | true =>
        go_wp2_with fail
        refine (HC.out _ (HWL.out)).mono ?_; rintro r w1 ⟨rfl, hb1⟩
        go_wp2_with fail
        go_roundw
        case rel => exact ⟨j + 1, by omega, by go_num, HS.out, HW2.out.trans (hb1)⟩
        case measure => simp [intOf]; omega
    · have HW2 := Lib.hid hw
      have HF : Hid (Ex.okAlls args = true) := by
        have e : args.take j = args := List.take_of_length_le (by omega)
        have := HA.out
        rw [e] at this
        exact this
      clear hw
      go_wp2_with fail
      refine (HCN.out _).mono ?_; rintro r w1 ⟨rfl, hb1⟩
      go_wp2_with fail
      go_ret
      exact ⟨ret_bool (by rw [HV.out, HF.out]; rfl), ((Later.rfl' _).alloc _).trans (HW2.out.trans hb1)⟩

set_option maxHeartbeats 1000000 in
theorem implareNodes (w : World) (S : Nat → Prop) (e : Ex) (cs : List Value) (h : ExAt w S e cs) : OkQ 120 w e cs := by
  refine ExAt.ind (Q := OkQ 120 w) (fun k n t args v hk hn ht hE hcost W hW => ?_) h
  obtain ⟨A, c, rfl, hlc, hcm⟩ := hE.form
  have HV : Hid (Ex.okAll (.mk k n t args) = (Ex.okAlls args && nodeOK k n t args.length)) := by unfold Hid; simp [Ex.okAll]
  simp only [Ex.cost] at hcost
  have ht2 : t.size ≤ maxLen := by simp only [maxLen]; omega
  have CN := fun W => implisNode k n t A args.length c W ht2 (by omega)
  obtain ⟨B, hB⟩ : ∃ B, B = nodeOK k n t args.length := ⟨_, rfl⟩
  rw [← hB] at CN HV
  have HCN := Lib.hid CN
  have HC2 : Hid (Ex.costs args ≤ 1048576) := by unfold Hid; omega
  have HE := Lib.hid hE; clear hE
  have HW := Lib.hid hW; clear hW
  clear CN hB ht2 hcost
  go_enter Try.func120, Try.ntmps120
  go_wp2_with fail
  go_loopw [8] (fun i wr => ∃ j : Nat, j ≤ args.length ∧ i = .int .i64 j ∧ Ex.okAlls (args.take j) = true ∧ Later (W.alloc (.cells #[.int .i64 k, .int .i64 n, .string t, .slice A args.length c] 67)) wr) (fun i _ => args.length - (intOf i).toNat)
  case atStart => exact ⟨0, Nat.zero_le _, rfl, by simp [Ex.okAlls], Later.rfl' _⟩
  case round =>
    obtain ⟨j, hj, rfl, hall, hw⟩ := hrel
    obtain ⟨a0, a1, a2, a3⟩ := box4 hw
    have HA := Lib.hid hall
    clear hall
    by_cases hlt : j < args.length
    · have hw2 : Later w wr := HW.out.trans (((Later.rfl' _).alloc _).trans hw)
      have hca := costs_at hlt
      obtain ⟨b, off, y0, y1, y2, y3, y4, y5, rfl, hb, hx, hq, e0, e1, e2, e3⟩ := HE.out.at_ hw2 hlt
      have hs := okAlls_succ hlt
      rw [HA.out, Bool.true_and] at hs
      have hs2 : Ex.okAlls args = (Ex.okAlls (args.take (j + 1)) && Ex.okAlls (args.drop (j + 1))) := by rw [← okAlls_append, List.take_append_drop]
      have C := hq
      unfold OkQ at C
      have C := C (Nat.le_trans hca HC2.out)
      obtain ⟨q, hq'⟩ : ∃ q, q = args[j].okAll := ⟨_, rfl⟩
      rw [← hq'] at C hs
      have HC := Lib.hid C
      have HWL := Lib.hid hw2
      have HW2 := Lib.hid hw
      have HS := Lib.hid hs
      have HS2 := Lib.hid hs2
      clear C hq hx hw2 hw hq' hs hs2 hca
      cases q with
      | false =>
        have HF : Hid (Ex.okAlls args = false) := by unfold Hid; rw [HS2.out, HS.out]; rfl
        go_wp2_with fail
        refine (HC.out _ (HWL.out.alloc _)).mono ?_; rintro r w1 ⟨rfl, hb1⟩
        go_wp2_with fail
        go_ret
        exact ⟨ret_bool (by rw [HV.out, HF.out]; rfl), ((Later.rfl' _).alloc _).trans (HW2.out.trans (((Later.rfl' _).alloc _).trans hb1))⟩
      | true =>
        go_wp2_with fail
        refine (HC.out _ (HWL.out.alloc _)).mono ?_; rintro r w1 ⟨rfl, hb1⟩
        go_wp2_with fail
        go_roundw
        case rel => exact ⟨j + 1, by omega, by go_num, HS.out, HW2.out.trans (((Later.rfl' _).alloc _).trans hb1)⟩
        case measure => simp [intOf]; omega
    · have HW2 := Lib.hid hw
      have HF : Hid (Ex.okAlls args = true) := by
        have e : args.take j = args := List.take_of_length_le (by omega)
        have := HA.out
        rw [e] at this
        exact this
      clear hw
      go_wp2_with fail
      refine (HCN.out _).mono ?_; rintro r w1 ⟨rfl, hb1⟩
      go_wp2_with fail
      go_ret
      exact ⟨ret_bool (by rw [HV.out, HF.out]; rfl), ((Later.rfl' _).alloc _).trans (HW2.out.trans hb1)⟩

/-- What is left of l after an expression's nodes. -/
def leftOf (l c : Int) : Int := if c ≤ l then l - c else -1
theorem leftOf_ways (l c : Int) : (c ≤ l ∧ leftOf l c = l - c) ∨ (l < c ∧ leftOf l c = -1) := by
  unfold leftOf
  by_cases h : c ≤ l
  · exact .inl ⟨h, if_pos h⟩
  · exact .inr ⟨by omega, if_neg h⟩

def LeftQ (w : World) (e : Ex) (cs : List Value) : Prop := e.cost ≤ 1048576 → ∀ (l : Int) W, 0 ≤ l → l ≤ 1048576 → Later w W → Calls Try.prog 121 #[.agg cs.toArray, .int .i64 l] W fun r w' => r = .returned (.int .i64 (leftOf l e.count)) ∧ Later W w'
set_option maxHeartbeats 1000000 in
theorem specl10Left (w : World) (S : Nat → Prop) (e : Ex) (cs : List Value) (h : ExAt w S e cs) : LeftQ w e cs := by
  refine ExAt.ind (Q := LeftQ w) (fun k n t args v hk hn ht hE hcost l W hl0 hl1 hW => ?_) h
  obtain ⟨A, c, rfl, hlc, hcm⟩ := hE.form
  simp only [Ex.cost] at hcost
  have HV : Hid (Ex.count (.mk k n t args) = 1 + Ex.counts args) := by unfold Hid; simp [Ex.count]
  have HC2 : Hid (Ex.costs args ≤ 1048576) := by unfold Hid; omega
  have hcc := counts_le_costs args
  have hcount : Ex.counts args ≤ 1048576 := by omega
  have HE := Lib.hid hE; clear hE
  have HW := Lib.hid hW; clear hW
  clear hcost hcc
  go_enter Try.func121, Try.ntmps121
  go_wp2_with fail
  go_loopw [1, 5] (fun s i wr => ∃ j : Nat, j ≤ args.length ∧ i = .int .i64 j ∧ s = .int .i64 (leftOf l ((1 + Ex.counts (args.take j) : Nat) : Int)) ∧ Later (W.alloc (.cells #[.int .i64 k, .int .i64 n, .string t, .slice A args.length c] 67)) wr) (fun _ i _ => args.length - (intOf i).toNat)
  case atStart => exact ⟨0, Nat.zero_le _, rfl, by (simp only [List.take_zero, Ex.counts]; rcases leftOf_ways l ((1 + 0 : Nat) : Int) with ⟨h1, h2⟩ | ⟨h1, h2⟩ <;> rw [h2] <;> first | rfl | (congr 1; done) | (congr 1; omega) | (congr 2; omega)), Later.rfl' _⟩
  case round =>
    obtain ⟨j, hj, rfl, rfl, hw⟩ := hrel
    obtain ⟨a0, a1, a2, a3⟩ := box4 hw
    have hle := counts_le args j
    by_cases hlt : j < args.length
    · have hw2 : Later w wr := HW.out.trans (((Later.rfl' _).alloc _).trans hw)
      have hca := costs_at hlt
      obtain ⟨b, off, y0, y1, y2, y3, y4, y5, rfl, hb, hx, hq, e0, e1, e2, e3⟩ := HE.out.at_ hw2 hlt
      have hs := counts_succ hlt
      have hs2 := counts_le args (j + 1)
      have C := hq
      unfold LeftQ at C
      have C := C (Nat.le_trans hca HC2.out)
      obtain ⟨N, hN⟩ : ∃ N, N = args[j].count := ⟨_, rfl⟩
      obtain ⟨M, hM⟩ : ∃ M, M = Ex.counts (args.take j) := ⟨_, rfl⟩
      obtain ⟨M', hM'⟩ : ∃ M, M = Ex.counts (args.take (j + 1)) := ⟨_, rfl⟩
      obtain ⟨Z, hZ⟩ : ∃ Z, Z = Ex.counts args := ⟨_, rfl⟩
      rw [← hN] at C hs
      rw [← hM] at hs hle ⊢
      rw [← hM'] at hs hs2
      rw [← hZ] at hle hs2 hcount HV
      obtain ⟨L, hL⟩ : ∃ L, L = leftOf l ((1 + M : Nat) : Int) := ⟨_, rfl⟩
      rw [← hL]
      by_cases hL0 : 0 ≤ L
      · have hL1 : L = l - (1 + M) ∧ leftOf L N = leftOf l ((1 + M' : Nat) : Int) := by
          rcases leftOf_ways l ((1 + M : Nat) : Int) with ⟨h1, h2⟩ | ⟨h1, h2⟩
          · rw [h2] at hL
            refine ⟨by omega, ?_⟩
            rcases leftOf_ways L N with ⟨h3, h4⟩ | ⟨h3, h4⟩ <;> rcases leftOf_ways l ((1 + M' : Nat) : Int) with ⟨h5, h6⟩ | ⟨h5, h6⟩ <;> rw [h4, h6] <;> omega
          · omega
        have C1 := fun W => C L W hL0 (by omega)
        rw [hL1.2] at C1
        have HM' : Hid (M' = Ex.counts (args.take (j + 1))) := hM'
        have HC := Lib.hid C1
        have HWL := Lib.hid hw2
        have HW2 := Lib.hid hw
        obtain ⟨K, hK⟩ : ∃ K, K = leftOf l ((1 + M' : Nat) : Int) := ⟨_, rfl⟩
        rw [← hK] at HC
        have HK : Hid (K = leftOf l ((1 + M' : Nat) : Int)) := hK
        clear C C1 hx hq hN hM hM' hZ hs hw hw2 hL hL1 hca hK HV
        go_wp2_with fail
        refine (HC.out _ (HWL.out)).mono ?_; rintro r w1 ⟨rfl, hb1⟩
        go_wp2_with fail
        go_roundw
        case rel => exact ⟨j + 1, by omega, by go_num, by rw [← HM'.out, ← HK.out], HW2.out.trans hb1⟩
        case measure => simp [intOf]; omega
      · have hL2 : L = -1 ∧ leftOf l ((1 + Z : Nat) : Int) = -1 := by
          rcases leftOf_ways l ((1 + M : Nat) : Int) with ⟨h1, h2⟩ | ⟨h1, h2⟩
          · omega
          · rcases leftOf_ways l ((1 + Z : Nat) : Int) with ⟨h5, h6⟩ | ⟨h5, h6⟩ <;> omega
        obtain ⟨hL3, hL4⟩ := hL2
        have HR : Hid (leftOf l (Ex.count (.mk k n t args)) = -1) := by unfold Hid; rw [HV.out]; exact hL4
        have HW2 := Lib.hid hw
        subst hL3
        clear C hx hq hN hM hM' hZ hs hw hw2 hL hL4 hca hL0 HV hle hs2
        go_wp2_with fail
        go_ret
        exact ⟨ret_int (by first | exact HR.out.symm | simpa using HR.out.symm), ((Later.rfl' _).alloc _).trans HW2.out⟩
    · have e : args.take j = args := List.take_of_length_le (by omega)
      have HR : Hid (leftOf l (Ex.count (.mk k n t args)) = leftOf l ((1 + Ex.counts (args.take j) : Nat) : Int)) := by unfold Hid; rw [HV.out, e]
      obtain ⟨L, hL⟩ : ∃ L, L = leftOf l ((1 + Ex.counts (args.take j) : Nat) : Int) := ⟨_, rfl⟩
      rw [← hL] at HR ⊢
      have HW2 := Lib.hid hw
      clear hw e hL
      go_wp2_with fail
      go_ret
      exact ⟨ret_int HR.out.symm, ((Later.rfl' _).alloc _).trans HW2.out⟩
end Go.Proofs.Ytghemlokpfipoaa
