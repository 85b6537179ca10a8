/-
  Values: SizeOf, DepthOf: the walks.
-/
import Derived.Test.YtghemlokpfipoaaYV1
namespace Go.Proofs.Ytghemlokpfipoaa
open Go.ChangeShapes Go.WideShapes Go.ChangeAt Go.RowKit
set_option linter.unusedVariables false
set_option linter.unusedSimpArgs false


set_option maxHeartbeats 1000000 in
theorem specDepthOf : ∀ d, DepthQ 142 d := by
  refine Vl.ind fun k n s t l cl r ih hm W S cs h => ?_
  obtain ⟨A1, c1, A2, c2, A3, c3, rfl, hb4, ⟨p1, q1⟩, ⟨p2, q2⟩, ⟨p3, q3⟩, g1, g2, g3⟩ := h.val
  have hdep := depth_le (.mk k n s t l cl r)
  rw [Vl.depth] at hdep
  rw [Vl.cost_mk] at hm hdep
  rw [Vl.depth]
  have HE := Lib.hid g1
  have IH := Lib.hid ih
  obtain ⟨Z1, hZ1⟩ : ∃ Z, Z = Vl.depths l := ⟨_, rfl⟩
  have hm1 : ∀ x, x ∈ l → Vl.cost x ≤ 1099511627776 := fun x hx => by have := sumN_mem Vl.cost hx; omega
  have HM1 := Lib.hid hm1
  rw [← hZ1] at hdep ⊢
  have b3 : Z1 ≤ 1099511627776 := by omega
  have HZ1 := Lib.hid hZ1
  clear g1 g2 g3 h ih hm hdep hZ1 hm1 hb4
  go_enter Try.func142, Try.ntmps142
  go_wp2
  go_loopw [3, 4] (fun sm i wr => ∃ j M : Nat, j ≤ l.length ∧ i = .int .i64 j ∧ M = Vl.depths (l.take j) ∧ sm = .int .i64 (M : Int) ∧ Later (W.alloc (.cells #[.int .i64 k, .int .i64 n, .int .i64 s, .string t, .slice A1 l.length c1, .slice A2 cl.length c2, .slice A3 r.length c3] 28)) wr) (fun _ i _ => l.length - (intOf i).toNat)
  case atStart => exact ⟨0, 0, Nat.zero_le _, rfl, by simp [Vl.depths], rfl, Later.rfl' _⟩
  case round =>
    obtain ⟨j, M, hj, rfl, hM, rfl, hw⟩ := hrel
    have a4 := boxN hw (j := 4) rfl
    have hs2 := vdepths_le l j
    rw [← hM, ← HZ1.out] at hs2
    by_cases hlt : j < l.length
    · obtain ⟨b, off, y0, y1, y2, y3, B1, n1, d1, B2, n2, d2, B3, n3, d3, rfl, hb, _, hx, e0, e1, e2, e3, e4, e5, e6⟩ := (HE.out.later (((Later.rfl' _).alloc _).trans hw)).valAt hlt
      have hs := vdepths_succ hlt
      have hs3 := vdepths_le l (j + 1)
      rw [← HZ1.out] at hs3
      have C := fun W' (hW' : Later wr W') => IH.out l[j] (List.getElem_mem hlt) (HM1.out _ (List.getElem_mem hlt)) W' S _ (hx.later hW')
      obtain ⟨N, hN⟩ : ∃ N, N = Vl.depth l[j] := ⟨_, rfl⟩
      rw [← hN] at C hs
      rw [← hM] at hs
      have hN2 : N ≤ 1099511627776 := by omega
      have hM2 : M ≤ 1099511627776 := by omega
      have HC := Lib.hid C
      have HW := Lib.hid hw
      by_cases hmn : N < M
      · have HN : Hid (M = Vl.depths (l.take (j + 1))) := by unfold Hid; omega
        clear C hx hN hs hs3 hs2 hM hw
        go_wp2_with fail
        refine (HC.out _ (Later.rfl' _)).mono ?_; rintro r w1 ⟨rfl, hb1⟩
        go_wp2
        go_roundw
        case rel => exact ⟨j + 1, M, by omega, by go_num, HN.out, by first | rfl | (congr 1; split <;> omega), HW.out.trans (hb1)⟩
        case measure => simp [intOf]; omega
      · have hmn' : M ≤ N := by omega
        have HN : Hid (N = Vl.depths (l.take (j + 1))) := by unfold Hid; omega
        clear C hx hN hs hs3 hs2 hM hw hmn
        go_wp2_with fail
        refine (HC.out _ (Later.rfl' _)).mono ?_; rintro r w1 ⟨rfl, hb1⟩
        go_wp2
        go_roundw
        case rel => exact ⟨j + 1, N, by omega, by go_num, HN.out, by first | rfl | (congr 1; split <;> omega), HW.out.trans (hb1)⟩
        case measure => simp [intOf]; omega
    · have e : l.take j = l := List.take_of_length_le (by omega)
      rw [e, ← HZ1.out] at hM
      have HM : Hid (M = Z1) := hM
      have hM2 : M ≤ 1099511627776 := by omega
      have HW := Lib.hid hw
      clear hw hM e hs2
      go_wp2
      go_ret
      exact ⟨ret_int (by rw [HM.out]; push_cast; rfl), ((Later.rfl' _).alloc _).trans HW.out⟩

set_option maxHeartbeats 1000000 in
theorem implSizeOf : ∀ d, SizeQ 17 d := by
  refine Vl.ind fun k n s t l cl r ih hm W S cs h => ?_
  obtain ⟨A1, c1, A2, c2, A3, c3, rfl, hb4, ⟨p1, q1⟩, ⟨p2, q2⟩, ⟨p3, q3⟩, g1, g2, g3⟩ := h.val
  rw [Vl.cost_mk] at hm
  rw [Vl.size, sizes_eq]
  have hs1 : sumN Vl.size l ≤ l.length + sumN Vl.cost l := by
    have h1 := sumN_mono (f := Vl.size) (g := fun x => 1 + Vl.cost x) (l := l) fun x _ => size_le x
    rw [sumN_add, sumN_one] at h1
    exact h1
  have hcl : cl.length ≤ costS cl := by unfold costS; omega
  have HE := Lib.hid g1
  have HR := Lib.hid g3
  have IH := Lib.hid ih
  obtain ⟨Z1, hZ1⟩ : ∃ Z, Z = sumN Vl.size l := ⟨_, rfl⟩
  obtain ⟨Z2, hZ2⟩ : ∃ Z, Z = sumN Rw.cost r := ⟨_, rfl⟩
  have hm1 : ∀ x, x ∈ l → Vl.cost x ≤ 1099511627776 := fun x hx => by have := sumN_mem Vl.cost hx; omega
  have HM1 := Lib.hid hm1
  have b1 : t.size ≤ 1099511627776 := by omega
  have b2 : cl.length ≤ 1099511627776 := by omega
  have b3 : Z1 ≤ 1099511627776 := by omega
  have b4 : Z2 ≤ 1099511627776 := by omega
  rw [← hZ1, ← hZ2]
  have HZ1 := Lib.hid hZ1
  have HZ2 := Lib.hid hZ2
  clear g1 g2 g3 h ih hm hs1 hcl hZ1 hZ2 hm1 hb4
  go_enter Try.func17, Try.ntmps17
  go_wp2
  go_loopw [3, 19] (fun sm i wr => ∃ j M : Nat, j ≤ l.length ∧ i = .int .i64 j ∧ M = 1 + t.size + cl.length + sumN Vl.size (l.take j) ∧ sm = .int .i64 (M : Int) ∧ Later (W.alloc (.cells #[.int .i64 k, .int .i64 n, .int .i64 s, .string t, .slice A1 l.length c1, .slice A2 cl.length c2, .slice A3 r.length c3] 28)) wr) (fun _ i _ => l.length - (intOf i).toNat)
  case atStart => exact ⟨0, 1 + t.size + cl.length, Nat.zero_le _, rfl, by simp [sumN], by push_cast; rfl, Later.rfl' _⟩
  case round =>
    obtain ⟨j, M, hj, rfl, hM, rfl, hw⟩ := hrel
    have a3 := boxN hw (j := 3) rfl
    have a4 := boxN hw (j := 4) rfl
    have a5 := boxN hw (j := 5) rfl
    have a6 := boxN hw (j := 6) rfl
    by_cases hlt : j < l.length
    · obtain ⟨b, off, y0, y1, y2, y3, B1, n1, d1, B2, n2, d2, B3, n3, d3, rfl, hb, _, hx, e0, e1, e2, e3, e4, e5, e6⟩ := (HE.out.later (((Later.rfl' _).alloc _).trans hw)).valAt hlt
      have hs := sumN_succ (f := Vl.size) hlt
      have hs2 := sumN_le Vl.size l (j + 1)
      rw [← HZ1.out] at hs2
      have C := fun W' (hW' : Later wr W') => IH.out l[j] (List.getElem_mem hlt) (HM1.out _ (List.getElem_mem hlt)) W' S _ (hx.later hW')
      obtain ⟨N, hN⟩ : ∃ N, N = Vl.size l[j] := ⟨_, rfl⟩
      rw [← hN] at C hs
      have hN2 : N ≤ 1099511627776 := by omega
      have hM2 : M ≤ 3298534883329 := by omega
      have HN : Hid (M + N = 1 + t.size + cl.length + sumN Vl.size (l.take (j + 1))) := by unfold Hid; omega
      have HC := Lib.hid C
      have HW := Lib.hid hw
      clear C hx hN hs hs2 hM hw
      go_wp2_with fail
      refine (HC.out _ ((Later.rfl' _).alloc _)).mono ?_; rintro r w1 ⟨rfl, hb1⟩
      go_wp2_with fail
      go_roundw
      case rel => exact ⟨j + 1, M + N, by omega, by go_num, HN.out, by push_cast; go_num, HW.out.trans (((Later.rfl' _).alloc _).trans hb1)⟩
      case measure => simp [intOf]; omega
    · have e : l.take j = l := List.take_of_length_le (by omega)
      rw [e, ← HZ1.out] at hM
      have HM : Hid (M = 1 + t.size + cl.length + Z1) := hM
      have hM2 : M ≤ 3298534883329 := by omega
      have HW := Lib.hid hw
      clear hw hM e
      go_wp2_with fail
      go_loopw [3, 31] (fun sm i wr => ∃ j M' : Nat, j ≤ r.length ∧ i = .int .i64 j ∧ M' = M + sumN Rw.cost (r.take j) ∧ sm = .int .i64 (M' : Int) ∧ Later (W.alloc (.cells #[.int .i64 k, .int .i64 n, .int .i64 s, .string t, .slice A1 l.length c1, .slice A2 cl.length c2, .slice A3 r.length c3] 28)) wr) (fun _ i _ => r.length - (intOf i).toNat)
      case atStart => exact ⟨0, M, Nat.zero_le _, rfl, by simp [sumN], rfl, HW.out⟩
      case round =>
        clear a3 a4 a5 a6
        obtain ⟨j', M', hj', rfl, hM', rfl, hw⟩ := hrel
        have a6 := boxN hw (j := 6) rfl
        by_cases hlt : j' < r.length
        · obtain ⟨b, off, B1, d1, B2, d2, rfl, hb, _, hx, e0, e1⟩ := (HR.out.later (((Later.rfl' _).alloc _).trans hw)).rowAt hlt
          obtain ⟨A, c, A', c', he, ⟨x1, x2⟩, ⟨x3, x4⟩, _, _⟩ := hx.row
          simp only [List.cons.injEq, Value.slice.injEq, true_and, and_true] at he
          obtain ⟨⟨rfl, rfl⟩, rfl, rfl⟩ := he
          have hs := sumN_succ (f := Rw.cost) hlt
          have hs2 := sumN_le Rw.cost r (j' + 1)
          rw [← HZ2.out] at hs2
          unfold Rw.cost at hs
          simp only [show (fun r : Rw => r.cells.length + r.from_.length) = Rw.cost from rfl] at hs
          obtain ⟨N1, hN1⟩ : ∃ N, N = r[j'].cells.length := ⟨_, rfl⟩
          obtain ⟨N2, hN2⟩ : ∃ N, N = r[j'].from_.length := ⟨_, rfl⟩
          rw [← hN1] at hs e0 x1
          rw [← hN2] at hs e1 x3
          have hM3 : M' ≤ 4398046511105 := by omega
          have hN3 : N1 ≤ 1099511627776 := by omega
          have hN4 : N2 ≤ 1099511627776 := by omega
          have HN : Hid (M' + N1 + N2 = M + sumN Rw.cost (r.take (j' + 1))) := by unfold Hid; omega
          have HW2 := Lib.hid hw
          have hki : (j' : Int) < (r.length : Int) := by omega
          clear hx hN1 hN2 hs hs2 hM' hw HM hM2
          go_wp2_with fail
          skip
          go_roundw
          case rel => exact ⟨j' + 1, M' + N1 + N2, by omega, by go_num, HN.out, by push_cast; go_num, HW2.out.trans ((Later.rfl' _).alloc _)⟩
          case measure => simp [intOf]; omega
        · have e : r.take j' = r := List.take_of_length_le (by omega)
          rw [e, ← HZ2.out] at hM'
          have HV : Hid (M' = 1 + t.size + cl.length + Z1 + Z2) := by have := HM.out; unfold Hid; omega
          have HW2 := Lib.hid hw
          clear hw hM' e HM
          go_wp2_with fail
          go_ret
          exact ⟨ret_int (by rw [HV.out]), ((Later.rfl' _).alloc _).trans HW2.out⟩
set_option maxHeartbeats 1000000 in
theorem implDepthOf : ∀ d, DepthQ 70 d := by
  refine Vl.ind fun k n s t l cl r ih hm W S cs h => ?_
  obtain ⟨A1, c1, A2, c2, A3, c3, rfl, hb4, ⟨p1, q1⟩, ⟨p2, q2⟩, ⟨p3, q3⟩, g1, g2, g3⟩ := h.val
  have hdep := depth_le (.mk k n s t l cl r)
  rw [Vl.depth] at hdep
  rw [Vl.cost_mk] at hm hdep
  rw [Vl.depth]
  have HE := Lib.hid g1
  have IH := Lib.hid ih
  obtain ⟨Z1, hZ1⟩ : ∃ Z, Z = Vl.depths l := ⟨_, rfl⟩
  have hm1 : ∀ x, x ∈ l → Vl.cost x ≤ 1099511627776 := fun x hx => by have := sumN_mem Vl.cost hx; omega
  have HM1 := Lib.hid hm1
  rw [← hZ1] at hdep ⊢
  have b3 : Z1 ≤ 1099511627776 := by omega
  have HZ1 := Lib.hid hZ1
  clear g1 g2 g3 h ih hm hdep hZ1 hm1 hb4
  go_enter Try.func70, Try.ntmps70
  go_wp2
  go_loopw [3, 9] (fun sm i wr => ∃ j M : Nat, j ≤ l.length ∧ i = .int .i64 j ∧ M = Vl.depths (l.take j) ∧ sm = .int .i64 (M : Int) ∧ Later (W.alloc (.cells #[.int .i64 k, .int .i64 n, .int .i64 s, .string t, .slice A1 l.length c1, .slice A2 cl.length c2, .slice A3 r.length c3] 28)) wr) (fun _ i _ => l.length - (intOf i).toNat)
  case atStart => exact ⟨0, 0, Nat.zero_le _, rfl, by simp [Vl.depths], rfl, Later.rfl' _⟩
  case round =>
    obtain ⟨j, M, hj, rfl, hM, rfl, hw⟩ := hrel
    have a4 := boxN hw (j := 4) rfl
    have hs2 := vdepths_le l j
    rw [← hM, ← HZ1.out] at hs2
    by_cases hlt : j < l.length
    · obtain ⟨b, off, y0, y1, y2, y3, B1, n1, d1, B2, n2, d2, B3, n3, d3, rfl, hb, _, hx, e0, e1, e2, e3, e4, e5, e6⟩ := (HE.out.later (((Later.rfl' _).alloc _).trans hw)).valAt hlt
      have hs := vdepths_succ hlt
      have hs3 := vdepths_le l (j + 1)
      rw [← HZ1.out] at hs3
      have C := fun W' (hW' : Later wr W') => IH.out l[j] (List.getElem_mem hlt) (HM1.out _ (List.getElem_mem hlt)) W' S _ (hx.later hW')
      obtain ⟨N, hN⟩ : ∃ N, N = Vl.depth l[j] := ⟨_, rfl⟩
      rw [← hN] at C hs
      rw [← hM] at hs
      have hN2 : N ≤ 1099511627776 := by omega
      have hM2 : M ≤ 1099511627776 := by omega
      have HC := Lib.hid C
      have HW := Lib.hid hw
      by_cases hmn : N < M
      · have HN : Hid (M = Vl.depths (l.take (j + 1))) := by unfold Hid; omega
        clear C hx hN hs hs3 hs2 hM hw
        go_wp2_with fail
        refine (HC.out _ ((Later.rfl' _).alloc _)).mono ?_; rintro r w1 ⟨rfl, hb1⟩
        go_wp2
        go_roundw
        case rel => exact ⟨j + 1, M, by omega, by go_num, HN.out, by first | rfl | (congr 1; split <;> omega), HW.out.trans (((Later.rfl' _).alloc _).trans hb1)⟩
        case measure => simp [intOf]; omega
      · have hmn' : M ≤ N := by omega
        have HN : Hid (N = Vl.depths (l.take (j + 1))) := by unfold Hid; omega
        clear C hx hN hs hs3 hs2 hM hw hmn
        go_wp2_with fail
        refine (HC.out _ ((Later.rfl' _).alloc _)).mono ?_; rintro r w1 ⟨rfl, hb1⟩
        go_wp2
        go_roundw
        case rel => exact ⟨j + 1, N, by omega, by go_num, HN.out, by first | rfl | (congr 1; split <;> omega), HW.out.trans (((Later.rfl' _).alloc _).trans hb1)⟩
        case measure => simp [intOf]; omega
    · have e : l.take j = l := List.take_of_length_le (by omega)
      rw [e, ← HZ1.out] at hM
      have HM : Hid (M = Z1) := hM
      have hM2 : M ≤ 1099511627776 := by omega
      have HW := Lib.hid hw
      clear hw hM e hs2
      go_wp2
      go_ret
      exact ⟨ret_int (by rw [HM.out]; push_cast; rfl), ((Later.rfl' _).alloc _).trans HW.out⟩
end Go.Proofs.Ytghemlokpfipoaa
