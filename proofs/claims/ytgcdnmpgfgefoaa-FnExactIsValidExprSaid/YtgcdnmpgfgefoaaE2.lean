/-
  Expressions: szExpr, toExpr, eqExpr of the laws; EqualExpr: the walks.
-/
import Derived.Test.YtgcdnmpgfgefoaaE1
import Derived.Test.YtgcdnmpgfgefoaaOwn
import Derived.Handy
namespace Go.Proofs.Ytgcdnmpgfgefoaa
open Go.ChangeShapes Go.WideShapes Go.ChangeAt Go.RowKit
set_option linter.unusedVariables false
set_option linter.unusedSimpArgs false

/-- What szExpr answers for an expression, in every later world. -/
def SzQ (w : World) (e : Ex) (cs : List Value) : Prop := ∀ left : Int, 0 ≤ left → left ≤ 1048576 → ∀ W, Later w W → Calls Try.prog 10 #[.agg cs.toArray, .int .i64 left] W fun r w' => r = .returned (.int .i64 (szR left e.cost)) ∧ Later W w'

theorem szR_range (left : Int) (c : Nat) (h : 0 ≤ left) (h1 : left ≤ 1048576) : (szR left c = -1 ∧ left < c) ∨ (szR left c = left - c ∧ 0 ≤ left - c) := by
  unfold szR
  split
  · exact .inl ⟨rfl, by assumption⟩
  · exact .inr ⟨rfl, by omega⟩

theorem szExprS (w : World) (S : Nat → Prop) (args : List Ex) (v : Value) (h : ExsQ w S (SzQ w) v args) (left : Int) (h0 : 0 ≤ left) (h1 : left ≤ 1048576) (W : World) (hW : Later w W) :
    Calls Try.prog 32 #[v, .int .i64 left] W fun r w' => r = .returned (.int .i64 (szR left (args.length + Ex.costs args))) ∧ Later W w' := by
  obtain ⟨A, c, rfl, hlc, hcm⟩ := h.form
  have HE := Lib.hid h; clear h
  have HW := Lib.hid hW; clear hW
  by_cases hl : left < (args.length : Int)
  · have HV : Hid (szR left (args.length + Ex.costs args) = -1) := szR_big (by omega)
    go_enter Try.func32, Try.ntmps32
    go_wp2
    go_ret
    exact ⟨ret_int HV.out.symm, Later.rfl' _⟩
  · have hl' : (args.length : Int) ≤ left := by omega
    clear hl
    go_enter Try.func32, Try.ntmps32
    go_wp2
    go_loopw [1, 5] (fun l i wr => ∃ j : Nat, j ≤ args.length ∧ i = .int .i64 j ∧ ((args.length + Ex.costs (args.take j) : Nat) : Int) ≤ left ∧ l = .int .i64 (left - ((args.length + Ex.costs (args.take j) : Nat) : Int)) ∧ Later W wr) (fun _ i _ => args.length - (intOf i).toNat)
    case atStart => exact ⟨0, Nat.zero_le _, rfl, by simpa [Ex.costs] using hl', by simp [Ex.costs], Later.rfl' _⟩
    case round =>
      obtain ⟨j, hj, rfl, hle0, rfl, hw⟩ := hrel
      have hle := costs_le args j
      by_cases hlt : j < args.length
      · have hw2 : Later w wr := HW.out.trans hw
        obtain ⟨b, off, y0, y1, y2, y3, y4, y5, rfl, hb, hx, hq, e0, e1, e2, e3⟩ := HE.out.at_ hw2 hlt
        have hs := costs_succ hlt
        have hs2 := costs_le args (j + 1)
        obtain ⟨N, hN⟩ : ∃ N, N = args[j].cost := ⟨_, rfl⟩
        obtain ⟨M, hM⟩ : ∃ M, M = args.length + Ex.costs (args.take j) := ⟨_, rfl⟩
        obtain ⟨M', hM'⟩ : ∃ M, M = args.length + Ex.costs (args.take (j + 1)) := ⟨_, rfl⟩
        obtain ⟨Z, hZ⟩ : ∃ Z, Z = args.length + Ex.costs args := ⟨_, rfl⟩
        rw [← hM] at hle0 ⊢
        have hMM : M' = M + N := by omega
        have hMZ : M' ≤ Z := by omega
        have hr := szR_range (left - M) N (by omega) (by omega)
        have C := hq (left - M) (by omega) (by omega)
        rw [← hN] at C
        obtain ⟨q, hq'⟩ : ∃ q, q = szR (left - M) N := ⟨_, rfl⟩
        rw [← hq'] at C hr
        have HM' : Hid (M' = args.length + Ex.costs (args.take (j + 1))) := hM'
        have HZ : Hid (Z = args.length + Ex.costs args) := hZ
        have HS : Hid (M' = M + N) := hMM
        have HC := Lib.hid C
        have HW2 := Lib.hid hw
        have HWL := Lib.hid hw2
        clear C hx hq hN hM hM' hZ hs hs2 hle hw hw2 hq' hMM
        rcases hr with ⟨hq1, hq2⟩ | ⟨hq1, hq2⟩
        · have hneg : q < 0 := by omega
          have HV : Hid (szR left Z = -1) := szR_big (by have := HS.out; omega)
          clear hq1
          go_wp2_with fail
          refine (HC.out _ HWL.out).mono ?_; rintro r w1 ⟨rfl, hb1⟩
          go_wp2
          go_ret
          exact ⟨ret_int (by rw [← HZ.out]; exact HV.out.symm), HW2.out.trans hb1⟩
        · have hneg : 0 ≤ q := by omega
          have HQ1 : Hid (q = left - M - N) := hq1
          clear hq1
          go_wp2_with fail
          refine (HC.out _ HWL.out).mono ?_; rintro r w1 ⟨rfl, hb1⟩
          go_wp2
          go_roundw
          case rel => exact ⟨j + 1, by omega, by go_num, by rw [← HM'.out, HS.out]; omega, by rw [← HM'.out, HS.out, HQ1.out]; go_num, HW2.out.trans hb1⟩
          case measure => simp [intOf]; omega
      · have e : args.take j = args := List.take_of_length_le (by omega)
        rw [e] at hle0 ⊢
        have HV : Hid (szR left (args.length + Ex.costs args) = left - ((args.length + Ex.costs args : Nat) : Int)) := szR_small (by omega)
        have HW2 := Lib.hid hw
        obtain ⟨Z, hZ⟩ : ∃ Z, Z = args.length + Ex.costs args := ⟨_, rfl⟩
        have HZ : Hid (Z = args.length + Ex.costs args) := hZ
        rw [← hZ] at hle0 HV ⊢
        clear hw e hZ hle
        go_wp2
        go_ret
        exact ⟨ret_int (by rw [← HZ.out]; exact HV.out.symm), HW2.out⟩

theorem szExpr (w : World) (S : Nat → Prop) (e : Ex) (cs : List Value) (h : ExAt w S e cs) : SzQ w e cs := by
  refine ExAt.ind (Q := SzQ w) (fun k n t args v hk hn ht hE left h0 h1 W hW => ?_) h
  have CS := fun l (a : 0 ≤ l) (b : l ≤ 1048576) W' (hW' : Later W W') => szExprS w S args v hE l a b W' (hW.trans hW')
  obtain ⟨A, c, rfl, hlc, hcm⟩ := hE.form
  clear hE
  simp only [Ex.cost]
  obtain ⟨N, hN⟩ : ∃ N, N = args.length + Ex.costs args := ⟨_, rfl⟩
  rw [← hN] at CS ⊢
  clear hN
  by_cases hl : left < (t.size : Int)
  · have HV : Hid (szR left (t.size + N) = -1) := szR_big (by omega)
    have hn : left - t.size < 0 := by omega
    clear hl CS
    go_enter Try.func10, Try.ntmps10
    go_wp2
    go_ret
    exact ⟨ret_int HV.out.symm, (Later.rfl' _).alloc _⟩
  · have hn : 0 ≤ left - t.size := by omega
    have hr := szR_range (left - t.size) N hn (by omega)
    have C := CS (left - t.size) hn (by omega)
    obtain ⟨q, hq'⟩ : ∃ q, q = szR (left - t.size) N := ⟨_, rfl⟩
    rw [← hq'] at C hr
    have HC := Lib.hid C
    clear C CS hl hq'
    rcases hr with ⟨hq1, hq2⟩ | ⟨hq1, hq2⟩
    · have hneg : q < 0 := by omega
      have HV : Hid (szR left (t.size + N) = -1) := szR_big (by omega)
      clear hq1
      go_enter Try.func10, Try.ntmps10
      go_wp2_with fail
      refine (HC.out _ ((Later.rfl' _).alloc _)).mono ?_; rintro r w1 ⟨rfl, hb1⟩
      go_wp2
      go_ret
      exact ⟨ret_int HV.out.symm, ((Later.rfl' _).alloc _).trans hb1⟩
    · have hneg : 0 ≤ q := by omega
      have HV : Hid (szR left (t.size + N) = q) := by unfold Hid; rw [szR_small (by omega)]; omega
      clear hq1
      go_enter Try.func10, Try.ntmps10
      go_wp2_with fail
      refine (HC.out _ ((Later.rfl' _).alloc _)).mono ?_; rintro r w1 ⟨rfl, hb1⟩
      go_wp2
      go_ret
      exact ⟨ret_int HV.out.symm, ((Later.rfl' _).alloc _).trans hb1⟩

/-! toExpr -/
theorem info_expr : (Try.prog.info? 29).map (fun i => (i.zero, i.size, i.bytes)) = some (some (.agg #[.int .i64 0, .int .i64 0, .string ByteArray.empty, .slice none 0 0]), 4, 56) := by kernel_rfl

/-- What toExpr returns: the same expression, in memory of its own. -/
def CopyOf (W w' : World) (e : Ex) (r : Ending) : Prop := ∃ y0 y1 y2 y3 y4 y5, r = .returned (.agg #[.int .i64 y0, .int .i64 y1, .string y2, .slice y3 y4 y5]) ∧ ExAt w' (fun b => W.heap.size ≤ b) e [.int .i64 y0, .int .i64 y1, .string y2, .slice y3 y4 y5]
def ToQ (w : World) (e : Ex) (cs : List Value) : Prop := e.cost ≤ 1048576 → ∀ W, Later w W → Calls Try.prog 12 #[.agg cs.toArray] W fun r w' => CopyOf W w' e r ∧ Later W w'
def CopyOfS (W w' : World) (args : List Ex) (r : Ending) : Prop := ∃ A c, r = .returned (.slice A args.length c) ∧ ExsAt w' (fun b => W.heap.size ≤ b) (.slice A args.length c) args

theorem toExprS (w : World) (S : Nat → Prop) (args : List Ex) (v : Value) (h : ExsQ w S (ToQ w) v args) (hcost : args.length + Ex.costs args ≤ 1048576) (W : World) (hW : Later w W) :
    Calls Try.prog 33 #[v] W fun r w' => CopyOfS W w' args r ∧ Later W w' := by
  obtain ⟨A, c, rfl, hlc, hcm⟩ := h.form
  have HE := Lib.hid h; clear h
  have HW := Lib.hid hW; clear hW
  obtain ⟨i0, hi, hz0, hz1, hz2⟩ := info_parts info_expr
  go_enter Try.func33, Try.ntmps33
  go_wp2_with (at_make; refine wpList_make_full _ rfl _ _ _ rfl W.heap.size 29 i0 (.agg #[.int .i64 0, .int .i64 0, .string ByteArray.empty, .slice none 0 0]) 4 Try.underlying27 hi hz0 hz1 .i64 .i64 _ _ args.length rfl rfl rfl rfl (by rw [hz2]; omega) (by simp only [maxLen]; omega) (Nat.le_refl _) ?_; intro w1 hown hgrow)
  obtain ⟨xs, hxs, hl1, hs1⟩ := madeOwn hown hgrow
  clear hown hgrow hi hz0 hz1 hz2
  go_loopw [4] (fun i wr => ∃ j : Nat, j ≤ args.length ∧ i = .int .i64 j ∧ (∃ xs G, wr.ownsRow W.heap.size 29 4 (.slice (some ⟨W.heap.size, 0, none⟩) args.length args.length) args.length xs ∧ Filled 4 xs G j ∧
      ∀ i (hi : i < args.length), i < j → ExAt wr (fun b => W.heap.size < b) args[i] (G i)) ∧ Later W wr ∧ W.heap.size < wr.heap.size) (fun i _ => args.length - (intOf i).toNat)
  case atStart => exact ⟨0, Nat.zero_le _, rfl, ⟨xs, fun _ => [], hxs, fun i hi => absurd hi (by omega), fun i _ hi => absurd hi (by omega)⟩, hl1, hs1⟩
  case round =>
    clear hxs hl1 hs1
    obtain ⟨j, hj, rfl, hrow, hw, hsz⟩ := hrel
    by_cases hlt : j < args.length
    · obtain ⟨xs, G, hown, hfill, hG⟩ := hrow
      have hw2 : Later w wr := HW.out.trans hw
      obtain ⟨b, off, y0, y1, y2, y3, y4, y5, rfl, hb, hx, hq, e0, e1, e2, e3⟩ := HE.out.at_ hw2 hlt
      have hs := costs_succ hlt
      have hs2 := costs_le args (j + 1)
      have C := hq (by omega) wr hw2
      have HC := Lib.hid C
      have HOWN := Lib.hid hown
      have HF := Lib.hid hfill
      have HG := Lib.hid hG
      have HW2 := Lib.hid hw
      obtain ⟨X, hX⟩ : ∃ X, X = args[j] := ⟨_, rfl⟩
      rw [← hX] at HC
      have HX : Hid (X = args[j]) := hX
      clear C hx hq hs hs2 hw hw2 hown hfill hG hX
      go_wp2_with fail
      refine HC.out.mono ?_; rintro r w2 ⟨⟨z0, z1, z2, z3, z4, z5, rfl, hz⟩, hb1⟩
      have hown2 := own_later HOWN.out hb1
      have hst := own_setFrom [.int .i64 z0, .int .i64 z1, .string z2, .slice z3 z4 z5] w2 xs (j * 4) hown2
      have hl2 := later_setFrom (Nat.le_refl _) [.int .i64 z0, .int .i64 z1, .string z2, .slice z3 z4 z5] w2 (j * 4) (HW2.out.trans hb1)
      have hbl : ∀ b, b ≠ W.heap.size → (setFrom w2 W.heap.size (j * 4) [.int .i64 z0, .int .i64 z1, .string z2, .slice z3 z4 z5]).heap[b]? = w2.heap[b]? := fun b hb => block_setFrom hb _ _ _
      have hszs := size_setFrom (g := W.heap.size) [.int .i64 z0, .int .i64 z1, .string z2, .slice z3 z4 z5] w2 (j * 4)
      have hfs := HF.out.step (vs := [.int .i64 z0, .int .i64 z1, .string z2, .slice z3 z4 z5]) hown2.1 hlt rfl
      have hsz2 := hb1.size
      have hGs : ∀ i (hi : i < args.length), i < j + 1 → ExAt (setFrom w2 W.heap.size (j * 4) [.int .i64 z0, .int .i64 z1, .string z2, .slice z3 z4 z5]) (fun b => W.heap.size < b) args[i] (if i = j then [.int .i64 z0, .int .i64 z1, .string z2, .slice z3 z4 z5] else G i) := by
        intro i hi hij
        by_cases e : i = j
        · subst e
          rw [if_pos rfl, ← HX.out]
          exact hz.keep fun b hs hl => ⟨by omega, by rw [hszs]; exact hl, hbl b (by omega)⟩
        · rw [if_neg e]
          exact ((HG.out i hi (by omega)).later hb1).keep fun b hs hl => ⟨hs, by rw [hszs]; exact hl, hbl b (by omega)⟩
      have hszW : W.heap.size < (setFrom w2 W.heap.size (j * 4) [.int .i64 z0, .int .i64 z1, .string z2, .slice z3 z4 z5]).heap.size := by rw [hszs]; omega
      have HR : Hid ((∃ xs G, (setFrom w2 W.heap.size (j * 4) [.int .i64 z0, .int .i64 z1, .string z2, .slice z3 z4 z5]).ownsRow W.heap.size 29 4 (.slice (some ⟨W.heap.size, 0, none⟩) args.length args.length) args.length xs ∧ Filled 4 xs G (j + 1) ∧
          ∀ i (hi : i < args.length), i < j + 1 → ExAt (setFrom w2 W.heap.size (j * 4) [.int .i64 z0, .int .i64 z1, .string z2, .slice z3 z4 z5]) (fun b => W.heap.size < b) args[i] (G i)) ∧ Later W (setFrom w2 W.heap.size (j * 4) [.int .i64 z0, .int .i64 z1, .string z2, .slice z3 z4 z5]) ∧
          W.heap.size < (setFrom w2 W.heap.size (j * 4) [.int .i64 z0, .int .i64 z1, .string z2, .slice z3 z4 z5]).heap.size) := ⟨⟨_, _, hst, hfs, hGs⟩, hl2, hszW⟩
      obtain ⟨u0, k0, f0⟩ := own_cell hown2 (j := j * 4) (by omega)
      obtain ⟨u1, k1, f1⟩ := own_cell hown2 (j := j * 4 + 1) (by omega)
      obtain ⟨u2, k2, f2⟩ := own_cell hown2 (j := j * 4 + 2) (by omega)
      obtain ⟨u3, k3, f3⟩ := own_cell hown2 (j := j * 4 + 3) (by omega)
      clear hst hl2 hbl hszs hfs hsz2 hGs hszW hown2 hz
      go_wp2_with fail
      go_roundw
      case rel => exact ⟨j + 1, by omega, by go_num, HR.out.1, HR.out.2.1, HR.out.2.2⟩
      case measure => simp [intOf]; omega
    · have HW2 := Lib.hid hw
      have hje : j = args.length := by omega
      obtain ⟨xs, G, hown, hfill, hG⟩ := hrow
      have HR : Hid (ExsAt wr (fun b => W.heap.size ≤ b) (.slice (some ⟨W.heap.size, 0, none⟩) args.length args.length) args) := by
        refine ⟨_, _, G, rfl, Nat.le_refl _, by omega, fun hn => ⟨W.heap.size, 0, rfl, hsz, Nat.le_refl _, fun i hi jj u hu => ?_⟩, fun i hi => (hG i hi (by omega)).more fun b hb => by omega⟩
        obtain ⟨g1, g2⟩ := hfill i (by omega)
        have hjj : jj < (G i).length := (List.getElem?_eq_some_iff.1 hu).1
        rw [Nat.zero_add, hown.cellAt _ (by omega)]
        exact g2 jj u hu
      clear hown hfill hG hw hje
      go_wp2
      go_ret
      exact ⟨⟨_, _, rfl, HR.out⟩, HW2.out⟩
end Go.Proofs.Ytgcdnmpgfgefoaa
