/-
  Expressions: NodeCount, NestingOf, HasEffect: the walks.
-/
import Derived.Test.YtghemlokpfipoaaYExpr
import Derived.Outline
namespace Go.Proofs.Ytghemlokpfipoaa
open Go.ChangeShapes Go.WideShapes Go.ChangeAt Go.RowKit
set_option linter.unusedVariables false
set_option linter.unusedSimpArgs false

/-- The four cells of a struct that was laid in a variable. -/
theorem box4 {w w1 : World} {t : TypeId} {c0 c1 c2 c3 : Value} (hb : Later (w.alloc (.cells #[c0, c1, c2, c3] t)) w1) :
    w1.cell? ⟨w.heap.size, 0, none⟩ = some c0 ∧ w1.cell? ⟨w.heap.size, 1, none⟩ = some c1 ∧ w1.cell? ⟨w.heap.size, 2, none⟩ = some c2 ∧ w1.cell? ⟨w.heap.size, 3, none⟩ = some c3 := by
  have h : ∀ j, w1.cell? ⟨w.heap.size, j, none⟩ = (w.alloc (.cells #[c0, c1, c2, c3] t)).cell? ⟨w.heap.size, j, none⟩ := fun j => Below.cell hb (by simp)
  exact ⟨by rw [h]; simp, by rw [h]; simp, by rw [h]; simp, by rw [h]; simp⟩


theorem specNodeCount (w : World) (S : Nat → Prop) (e : Ex) (cs : List Value) (h : ExAt w S e cs) : e.count ≤ 4194304 → ∀ W, Later w W → Calls Try.prog 58 #[.agg cs.toArray] W fun r w' => r = .returned (.int .i64 e.count) ∧ Later W w' := by
  refine ExAt.ind (Q := fun e cs => e.count ≤ 4194304 → ∀ W, Later w W → Calls Try.prog 58 #[.agg cs.toArray] W fun r w' => r = .returned (.int .i64 e.count) ∧ Later W w') (fun k n t args v hk hn ht hE hm W hW => ?_) h
  obtain ⟨A, c, rfl, hlc, hcm⟩ := hE.form
  simp only [Ex.count] at hm ⊢
  have HE := Lib.hid hE; clear hE
  have HW := Lib.hid hW; clear hW
  go_enter Try.func58, Try.ntmps58
  go_wp2
  go_loopw [3, 4] (fun s i wr => ∃ j : Nat, j ≤ args.length ∧ i = .int .i64 j ∧ s = .int .i64 ((1 + Ex.counts (args.take j) : Nat) : Int) ∧ Later (W.alloc (.cells #[.int .i64 k, .int .i64 n, .string t, .slice A args.length c] 67)) wr) (fun _ i _ => args.length - (intOf i).toNat)
  case atStart => exact ⟨0, Nat.zero_le _, rfl, by simp [Ex.counts], Later.rfl' _⟩
  case round =>
    obtain ⟨j, hj, rfl, rfl, hw⟩ := hrel
    obtain ⟨a0, a1, a2, a3⟩ := box4 hw
    have hle := counts_le args j
    by_cases hlt : j < args.length
    · have hw2 : Later w wr := HW.out.trans (((Later.rfl' _).alloc _).trans hw)
      obtain ⟨b, off, y0, y1, y2, y3, y4, y5, rfl, hb, hx, hq, e0, e1, e2, e3⟩ := HE.out.at_ hw2 hlt
      have hs := counts_succ hlt
      have hs2 := counts_le args (j + 1)
      have hcnt : args[j].count ≤ 4194304 := by omega
      have C := hq hcnt
      obtain ⟨N, hN⟩ : ∃ N, N = args[j].count := ⟨_, rfl⟩
      obtain ⟨M, hM⟩ : ∃ M, M = Ex.counts (args.take j) := ⟨_, rfl⟩
      obtain ⟨M', hM'⟩ : ∃ M, M = Ex.counts (args.take (j + 1)) := ⟨_, rfl⟩
      obtain ⟨Z, hZ⟩ : ∃ Z, Z = Ex.counts args := ⟨_, rfl⟩
      rw [← hN] at C hs hcnt
      rw [← hM] at hs hle ⊢
      rw [← hM'] at hs hs2
      rw [← hZ] at hle hs2 hm
      have HM' : Hid (M' = Ex.counts (args.take (j + 1))) := hM'
      have HS : Hid (M' = M + N) := hs
      have HC := Lib.hid C
      have HW2 := Lib.hid hw
      have HWL := Lib.hid hw2
      clear C hx hq hN hM hM' hZ hs hw hw2
      go_wp2_with fail
      refine (HC.out _ (HWL.out)).mono ?_; rintro r w1 ⟨rfl, hb1⟩
      go_wp2_with fail
      go_roundw
      case rel => exact ⟨j + 1, by omega, by go_num, by rw [← HM'.out, HS.out]; push_cast; go_num, HW2.out.trans (hb1)⟩
      case measure => simp [intOf]; omega
    · have e : args.take j = args := List.take_of_length_le (by omega)
      rw [e] at hle ⊢
      have HW2 := Lib.hid hw
      clear hw e
      go_wp2
      go_ret
      exact ⟨rfl, ((Later.rfl' _).alloc _).trans HW2.out⟩

theorem implNodeCount (w : World) (S : Nat → Prop) (e : Ex) (cs : List Value) (h : ExAt w S e cs) : e.count ≤ 4194304 → ∀ W, Later w W → Calls Try.prog 57 #[.agg cs.toArray] W fun r w' => r = .returned (.int .i64 e.count) ∧ Later W w' := by
  refine ExAt.ind (Q := fun e cs => e.count ≤ 4194304 → ∀ W, Later w W → Calls Try.prog 57 #[.agg cs.toArray] W fun r w' => r = .returned (.int .i64 e.count) ∧ Later W w') (fun k n t args v hk hn ht hE hm W hW => ?_) h
  obtain ⟨A, c, rfl, hlc, hcm⟩ := hE.form
  simp only [Ex.count] at hm ⊢
  have HE := Lib.hid hE; clear hE
  have HW := Lib.hid hW; clear hW
  go_enter Try.func57, Try.ntmps57
  go_wp2
  go_loopw [3, 9] (fun s i wr => ∃ j : Nat, j ≤ args.length ∧ i = .int .i64 j ∧ s = .int .i64 ((1 + Ex.counts (args.take j) : Nat) : Int) ∧ Later (W.alloc (.cells #[.int .i64 k, .int .i64 n, .string t, .slice A args.length c] 67)) wr) (fun _ i _ => args.length - (intOf i).toNat)
  case atStart => exact ⟨0, Nat.zero_le _, rfl, by simp [Ex.counts], Later.rfl' _⟩
  case round =>
    obtain ⟨j, hj, rfl, rfl, hw⟩ := hrel
    obtain ⟨a0, a1, a2, a3⟩ := box4 hw
    have hle := counts_le args j
    by_cases hlt : j < args.length
    · have hw2 : Later w wr := HW.out.trans (((Later.rfl' _).alloc _).trans hw)
      obtain ⟨b, off, y0, y1, y2, y3, y4, y5, rfl, hb, hx, hq, e0, e1, e2, e3⟩ := HE.out.at_ hw2 hlt
      have hs := counts_succ hlt
      have hs2 := counts_le args (j + 1)
      have hcnt : args[j].count ≤ 4194304 := by omega
      have C := hq hcnt
      obtain ⟨N, hN⟩ : ∃ N, N = args[j].count := ⟨_, rfl⟩
      obtain ⟨M, hM⟩ : ∃ M, M = Ex.counts (args.take j) := ⟨_, rfl⟩
      obtain ⟨M', hM'⟩ : ∃ M, M = Ex.counts (args.take (j + 1)) := ⟨_, rfl⟩
      obtain ⟨Z, hZ⟩ : ∃ Z, Z = Ex.counts args := ⟨_, rfl⟩
      rw [← hN] at C hs hcnt
      rw [← hM] at hs hle ⊢
      rw [← hM'] at hs hs2
      rw [← hZ] at hle hs2 hm
      have HM' : Hid (M' = Ex.counts (args.take (j + 1))) := hM'
      have HS : Hid (M' = M + N) := hs
      have HC := Lib.hid C
      have HW2 := Lib.hid hw
      have HWL := Lib.hid hw2
      clear C hx hq hN hM hM' hZ hs hw hw2
      go_wp2_with fail
      refine (HC.out _ (HWL.out.alloc _)).mono ?_; rintro r w1 ⟨rfl, hb1⟩
      go_wp2_with fail
      go_roundw
      case rel => exact ⟨j + 1, by omega, by go_num, by rw [← HM'.out, HS.out]; push_cast; go_num, HW2.out.trans (((Later.rfl' _).alloc _).trans hb1)⟩
      case measure => simp [intOf]; omega
    · have e : args.take j = args := List.take_of_length_le (by omega)
      rw [e] at hle ⊢
      have HW2 := Lib.hid hw
      clear hw e
      go_wp2
      go_ret
      exact ⟨rfl, ((Later.rfl' _).alloc _).trans HW2.out⟩


theorem specNestingOf (w : World) (S : Nat → Prop) (e : Ex) (cs : List Value) (h : ExAt w S e cs) : e.depth ≤ 4194304 → ∀ W, Later w W → Calls Try.prog 122 #[.agg cs.toArray] W fun r w' => r = .returned (.int .i64 e.depth) ∧ Later W w' := by
  refine ExAt.ind (Q := fun e cs => e.depth ≤ 4194304 → ∀ W, Later w W → Calls Try.prog 122 #[.agg cs.toArray] W fun r w' => r = .returned (.int .i64 e.depth) ∧ Later W w') (fun k n t args v hk hn ht hE hm W hW => ?_) h
  obtain ⟨A, c, rfl, hlc, hcm⟩ := hE.form
  simp only [Ex.depth] at hm ⊢
  have HE := Lib.hid hE; clear hE
  have HW := Lib.hid hW; clear hW
  go_enter Try.func122, Try.ntmps122
  go_wp2
  go_loopw [3, 4] (fun s i wr => ∃ j : Nat, j ≤ args.length ∧ i = .int .i64 j ∧ s = .int .i64 (Ex.depths (args.take j) : Nat) ∧ Later (W.alloc (.cells #[.int .i64 k, .int .i64 n, .string t, .slice A args.length c] 67)) wr) (fun _ i _ => args.length - (intOf i).toNat)
  case atStart => exact ⟨0, Nat.zero_le _, rfl, by simp [Ex.depths], Later.rfl' _⟩
  case round =>
    obtain ⟨j, hj, rfl, rfl, hw⟩ := hrel
    obtain ⟨a0, a1, a2, a3⟩ := box4 hw
    have hle := depths_le args j
    by_cases hlt : j < args.length
    · have hw2 : Later w wr := HW.out.trans (((Later.rfl' _).alloc _).trans hw)
      obtain ⟨b, off, y0, y1, y2, y3, y4, y5, rfl, hb, hx, hq, e0, e1, e2, e3⟩ := HE.out.at_ hw2 hlt
      have hs := depths_succ hlt
      have hs2 := depths_le args (j + 1)
      have hcnt : args[j].depth ≤ 4194304 := by omega
      have C := hq hcnt
      obtain ⟨N, hN⟩ : ∃ N, N = args[j].depth := ⟨_, rfl⟩
      obtain ⟨M, hM⟩ : ∃ M, M = Ex.depths (args.take j) := ⟨_, rfl⟩
      obtain ⟨M', hM'⟩ : ∃ M, M = Ex.depths (args.take (j + 1)) := ⟨_, rfl⟩
      obtain ⟨Z, hZ⟩ : ∃ Z, Z = Ex.depths args := ⟨_, rfl⟩
      rw [← hN] at C hs hcnt
      rw [← hM] at hs hle ⊢
      rw [← hM'] at hs hs2
      rw [← hZ] at hle hs2 hm
      have HM' : Hid (M' = Ex.depths (args.take (j + 1))) := hM'
      have HS : Hid (M' = max M N) := hs
      have HC := Lib.hid C
      have HW2 := Lib.hid hw
      have HWL := Lib.hid hw2
      clear C hx hq hN hM hM' hZ hs hw hw2
      by_cases hmn : N < M
      · have HS' : Hid (M' = M) := by have := HS.out; unfold Hid; omega
        go_wp2_with fail
        refine (HC.out _ (HWL.out)).mono ?_; rintro r w1 ⟨rfl, hb1⟩
        go_wp2
        go_roundw
        case rel => exact ⟨j + 1, by omega, by go_num, by rw [← HM'.out, HS'.out] <;> first | rfl | (congr 1; split <;> omega), HW2.out.trans (hb1)⟩
        case measure => simp [intOf]; omega
      · have hmn' : M ≤ N := by omega
        clear hmn
        have HS' : Hid (M' = N) := by have := HS.out; unfold Hid; omega
        go_wp2_with fail
        refine (HC.out _ (HWL.out)).mono ?_; rintro r w1 ⟨rfl, hb1⟩
        go_wp2
        go_roundw
        case rel => exact ⟨j + 1, by omega, by go_num, by rw [← HM'.out, HS'.out] <;> first | rfl | (congr 1; split <;> omega), HW2.out.trans (hb1)⟩
        case measure => simp [intOf]; omega
    · have e : args.take j = args := List.take_of_length_le (by omega)
      rw [e] at hle ⊢
      have HW2 := Lib.hid hw
      clear hw e
      go_wp2
      go_ret
      exact ⟨ret_int (by push_cast; rfl), ((Later.rfl' _).alloc _).trans HW2.out⟩

theorem implNestingOf (w : World) (S : Nat → Prop) (e : Ex) (cs : List Value) (h : ExAt w S e cs) : e.depth ≤ 4194304 → ∀ W, Later w W → Calls Try.prog 60 #[.agg cs.toArray] W fun r w' => r = .returned (.int .i64 e.depth) ∧ Later W w' := by
  refine ExAt.ind (Q := fun e cs => e.depth ≤ 4194304 → ∀ W, Later w W → Calls Try.prog 60 #[.agg cs.toArray] W fun r w' => r = .returned (.int .i64 e.depth) ∧ Later W w') (fun k n t args v hk hn ht hE hm W hW => ?_) h
  obtain ⟨A, c, rfl, hlc, hcm⟩ := hE.form
  simp only [Ex.depth] at hm ⊢
  have HE := Lib.hid hE; clear hE
  have HW := Lib.hid hW; clear hW
  go_enter Try.func60, Try.ntmps60
  go_wp2
  go_loopw [3, 9] (fun s i wr => ∃ j : Nat, j ≤ args.length ∧ i = .int .i64 j ∧ s = .int .i64 (Ex.depths (args.take j) : Nat) ∧ Later (W.alloc (.cells #[.int .i64 k, .int .i64 n, .string t, .slice A args.length c] 67)) wr) (fun _ i _ => args.length - (intOf i).toNat)
  case atStart => exact ⟨0, Nat.zero_le _, rfl, by simp [Ex.depths], Later.rfl' _⟩
  case round =>
    obtain ⟨j, hj, rfl, rfl, hw⟩ := hrel
    obtain ⟨a0, a1, a2, a3⟩ := box4 hw
    have hle := depths_le args j
    by_cases hlt : j < args.length
    · have hw2 : Later w wr := HW.out.trans (((Later.rfl' _).alloc _).trans hw)
      obtain ⟨b, off, y0, y1, y2, y3, y4, y5, rfl, hb, hx, hq, e0, e1, e2, e3⟩ := HE.out.at_ hw2 hlt
      have hs := depths_succ hlt
      have hs2 := depths_le args (j + 1)
      have hcnt : args[j].depth ≤ 4194304 := by omega
      have C := hq hcnt
      obtain ⟨N, hN⟩ : ∃ N, N = args[j].depth := ⟨_, rfl⟩
      obtain ⟨M, hM⟩ : ∃ M, M = Ex.depths (args.take j) := ⟨_, rfl⟩
      obtain ⟨M', hM'⟩ : ∃ M, M = Ex.depths (args.take (j + 1)) := ⟨_, rfl⟩
      obtain ⟨Z, hZ⟩ : ∃ Z, Z = Ex.depths args := ⟨_, rfl⟩
      rw [← hN] at C hs hcnt
      rw [← hM] at hs hle ⊢
      rw [← hM'] at hs hs2
      rw [← hZ] at hle hs2 hm
      have HM' : Hid (M' = Ex.depths (args.take (j + 1))) := hM'
      have HS : Hid (M' = max M N) := hs
      have HC := Lib.hid C
      have HW2 := Lib.hid hw
      have HWL := Lib.hid hw2
      clear C hx hq hN hM hM' hZ hs hw hw2
      by_cases hmn : N < M
      · have HS' : Hid (M' = M) := by have := HS.out; unfold Hid; omega
        go_wp2_with fail
        refine (HC.out _ (HWL.out.alloc _)).mono ?_; rintro r w1 ⟨rfl, hb1⟩
        go_wp2
        go_roundw
        case rel => exact ⟨j + 1, by omega, by go_num, by rw [← HM'.out, HS'.out] <;> first | rfl | (congr 1; split <;> omega), HW2.out.trans (((Later.rfl' _).alloc _).trans hb1)⟩
        case measure => simp [intOf]; omega
      · have hmn' : M ≤ N := by omega
        clear hmn
        have HS' : Hid (M' = N) := by have := HS.out; unfold Hid; omega
        go_wp2_with fail
        refine (HC.out _ (HWL.out.alloc _)).mono ?_; rintro r w1 ⟨rfl, hb1⟩
        go_wp2
        go_roundw
        case rel => exact ⟨j + 1, by omega, by go_num, by rw [← HM'.out, HS'.out] <;> first | rfl | (congr 1; split <;> omega), HW2.out.trans (((Later.rfl' _).alloc _).trans hb1)⟩
        case measure => simp [intOf]; omega
    · have e : args.take j = args := List.take_of_length_le (by omega)
      rw [e] at hle ⊢
      have HW2 := Lib.hid hw
      clear hw e
      go_wp2
      go_ret
      exact ⟨ret_int (by push_cast; rfl), ((Later.rfl' _).alloc _).trans HW2.out⟩
end Go.Proofs.Ytghemlokpfipoaa
