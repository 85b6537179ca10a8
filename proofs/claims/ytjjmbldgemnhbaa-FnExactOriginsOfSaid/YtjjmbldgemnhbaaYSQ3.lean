/-
  sort.heapSort_func and sort.reverseRange_func with a 'less' that lays blocks.
-/
import Derived.Test.YtjjmbldgemnhbaaYSQ2
namespace Go.Proofs.Ytjjmbldgemnhbaa
open Go.RowKit Go.ChangeShapes Go.WideShapes Go.Sort
set_option linter.unusedVariables false
set_option linter.unusedSimpArgs false

/-! From the world where a callee is entered: what the caller laid stays. -/
theorem SR.refl {W0 W : World} {blk n : Nat} {d : Array Org} (h : SR W0 blk n W d) : SR W blk n W d := ⟨Chg.rfl' _ _, h.row, h.size, Same.rfl' _ _⟩
theorem SR.trans {W0 W W' : World} {blk n : Nat} {d d' : Array Org} (h : SR W0 blk n W d) (h' : SR W blk n W' d') : SR W0 blk n W' d' := ⟨h.chg.trans h'.chg, h'.row, h'.size, h.same.trans h'.same⟩
theorem SE.rebase {W0 W : World} {blk n g sf : Nat} {lb sb : Array Value} {lt : Org → Org → Bool} {d : Array Org} (E : SE W0 blk n lt g lb sf sb) (h : SR W0 blk n W d) : SE W blk n lt g lb sf sb :=
  ⟨Nat.lt_of_lt_of_le E.lt0 h.chg.size, E.small, E.enter, fun W1 d1 h1 => E.less W1 d1 (h.trans h1), fun W1 d1 h1 => E.swap W1 d1 (h.trans h1), E.swapK⟩
theorem SR.cell {W W' : World} {blk n : Nat} {d : Array Org} (h : SR W blk n W' d) {b o : Nat} {u : Value} (hc : W.cell? ⟨b, o, none⟩ = some u) (hb : b ≠ blk) : W'.cell? ⟨b, o, none⟩ = some u :=
  (World.cell?_of_block (w := W) (a := ⟨b, o, none⟩) (h.chg.block b (World.block_lt_of_cell? W _ hc) hb)).trans hc
theorem DB.kept {q g sf blk n : Nat} {lb sb : Array Value} {w w' : World} {d : Array Org} (h : DB q g lb sf sb w) (hs : SR w blk n w' d) (hq : blk < q) : DB q g lb sf sb w' :=
  ⟨hs.cell h.1 (by omega), hs.cell h.2 (by omega)⟩

set_option maxHeartbeats 4000000 in
set_option maxRecDepth 1000000 in
theorem sqReverse {W0 : World} {blk n : Nat} {lt : Org → Org → Bool} {g sf : Nat} {lb sb : Array Value} (E : SE W0 blk n lt g lb sf sb) {W : World} {d : Array Org} (h : SR W0 blk n W d) (a b : Nat) (hab : a < b) (hb : b ≤ n) :
    Calls Try.prog 62 #[lessSwap g lb sf sb, .int .i64 a, .int .i64 b] W fun e w' => e = .returned (.tuple #[]) ∧ SR W0 blk n w' (reverseRange d a b) := by
  have EG := E.enter
  have HE := Lib.hid E
  have HH := Lib.hid h
  have hsm := E.small
  have hblk : blk < W.heap.size := Nat.lt_of_lt_of_le E.lt0 h.chg.size
  clear E h
  go_enter Try.func62, Try.ntmps62
  unfold lessSwap
  go_wp2_with fail
  go_loopw [6, 7] (fun v6 v7 wr => ∃ (i j : Nat) (dk : Array Org), v6 = .int .i64 i ∧ v7 = .int .i64 j ∧ i ≤ j + 1 ∧ j < b ∧ DB W.heap.size g lb sf sb wr ∧ SR W0 blk n wr dk ∧ Hid (reverseLoop i j dk = reverseLoop a (b - 1) d)) (fun v6 v7 _ => (intOf v7).toNat + 1 - (intOf v6).toNat)
  case atStart => exact ⟨a, b - 1, d, rfl, by go_num, by omega, by omega, ⟨by simp, by simp⟩, HH.out.later ((Later.rfl' _).alloc _), rfl⟩
  case round =>
    obtain ⟨i, j, dk, rfl, rfl, hij, hjb, ⟨c0, c1⟩, hsr, HO⟩ := hrel
    have HS := Lib.hid hsr
    clear hsr
    by_cases hlt : i < j
    · have hz : (i : Int) < (j : Int) := by omega
      have hsw := HE.out.swap_at HS.out (x := (i : Int)) (y := (j : Int)) i j rfl rfl (by omega) (by omega)
      go_wp2_with fail
      refine ⟨⟨i + 1, j - 1, swp dk i j, by go_num, by go_num, by omega, by omega, DB.swap ⟨c0, c1⟩ HS.out hblk, HS.out.swap (by omega) (by omega), ?_⟩, by simp [intOf]; omega⟩
      show _ = _
      rw [← HO.out]
      conv => rhs; rw [reverseLoop, if_pos hlt]
    · have hz : ¬ (i : Int) < (j : Int) := by omega
      go_wp2_with fail
      go_end0
      refine ⟨rfl, ?_⟩
      have e : reverseRange d a b = dk := by rw [reverseRange, ← HO.out, reverseLoop, if_neg hlt]
      rw [e]
      exact HS.out

set_option maxHeartbeats 4000000 in
set_option maxRecDepth 1000000 in
theorem sqHeapSort {W0 : World} {blk n : Nat} {lt : Org → Org → Bool} {g sf : Nat} {lb sb : Array Value} (E : SE W0 blk n lt g lb sf sb) {W : World} {d : Array Org} (h : SR W0 blk n W d) (a b : Nat) (hab : a < b) (hb : b ≤ n) :
    Calls Try.prog 59 #[lessSwap g lb sf sb, .int .i64 a, .int .i64 b] W fun e w' => e = .returned (.tuple #[]) ∧ SR W0 blk n w' (heapSort lt d a b) := by
  have EG := E.enter
  have HE := Lib.hid E
  have HH := Lib.hid h
  have hsm := E.small
  have hblk : blk < W.heap.size := Nat.lt_of_lt_of_le E.lt0 h.chg.size
  clear E h
  have hhiz : (b : Int) - (a : Int) = ((b - a : Nat) : Int) := by omega
  have hq : (((b - a : Nat) : Int) - 1).tdiv 2 = (((b - a - 1) / 2 : Nat) : Int) := by
    rw [show ((b - a : Nat) : Int) - 1 = ((b - a - 1 : Nat) : Int) by omega]
    rfl
  have CS := fun (w1 : World) (d1 : Array Org) (h1 : SR W0 blk n w1 d1) (lo hi' : Nat) (x1 : lo ≤ hi') (x2 : a + hi' ≤ n) => sqSiftDown (HE.out.rebase h1) h1.refl lo hi' a x1 x2
  unfold lessSwap at CS
  have HC := Lib.hid CS
  clear CS
  go_enter Try.func59, Try.ntmps59
  unfold lessSwap
  go_wp2_with fail
  go_loopw [9] (fun v9 wr => ∃ (k : Nat) (dk : Array Org), v9 = .int .i64 ((k : Int) - 1) ∧ k ≤ b - a ∧ DB W.heap.size g lb sf sb wr ∧ SR W0 blk n wr dk ∧ Hid (heapBuild lt (b - a) a k dk = heapBuild lt (b - a) a ((b - a - 1) / 2 + 1) d)) (fun v9 _ => (intOf v9 + 1).toNat)
  case atStart => exact ⟨(b - a - 1) / 2 + 1, d, by go_num, by omega, ⟨by simp, by simp⟩, HH.out.later ((Later.rfl' _).alloc _), rfl⟩
  case round =>
    obtain ⟨k, dk, rfl, hk, ⟨c0, c1⟩, hsr, HO⟩ := hrel
    have HS := Lib.hid hsr
    clear hsr
    rcases k with _ | k
    · have hz : ¬ (0 : Int) ≤ ((0 : Nat) : Int) - 1 := by omega
      go_wp2_with fail
      go_loopw [10] (fun v10 wr => ∃ (k : Nat) (dj : Array Org), v10 = .int .i64 ((k : Int) - 1) ∧ k ≤ b - a ∧ DB W.heap.size g lb sf sb wr ∧ SR W0 blk n wr dj ∧ Hid (heapPop lt a k dj = heapPop lt a (b - a) dk)) (fun v10 _ => (intOf v10 + 1).toNat)
      case atStart => exact ⟨b - a, dk, by go_num, by omega, ⟨c0, c1⟩, HS.out, rfl⟩
      case round =>
        clear HS c0 c1
        obtain ⟨k, dj, rfl, hk, ⟨c0, c1⟩, hsr, HI⟩ := hrel
        have HS := Lib.hid hsr
        clear hsr
        rcases k with _ | k
        · have hz : ¬ (0 : Int) ≤ ((0 : Nat) : Int) - 1 := by omega
          go_wp2_with fail
          go_end0
          refine ⟨rfl, ?_⟩
          have e : heapSort lt d a b = dj := by
            rw [heapSort, ← HO.out, heapBuild, ← HI.out, heapPop]
          rw [e]
          exact HS.out
        · have hz : (0 : Int) ≤ ((k + 1 : Nat) : Int) - 1 := by omega
          have hsw := HE.out.swap_at HS.out (x := (a : Int)) (y := (a : Int) + (k : Int)) a (a + k) rfl (by omega) (by omega) (by omega)
          have hsr1 := HS.out.swap (i := a) (j := a + k) (by omega) (by omega)
          have hdb1 := DB.swap (i := a) (j := a + k) ⟨c0, c1⟩ HS.out hblk
          have CH := HC.out _ _ hsr1 0 k (by omega) (by omega)
          rw [show ((0 : Nat) : Int) = 0 from rfl] at CH
          obtain ⟨c2, c3⟩ := hdb1
          clear hsr1
          go_wp2_with fail
          refine CH.mono ?_; rintro e w1 ⟨rfl, hs2⟩
          go_wp2_with fail
          have hsr2 := HS.out.swap (i := a) (j := a + k) (by omega) (by omega)
          refine ⟨⟨k, _, rfl, by omega, DB.kept ⟨c2, c3⟩ hs2 hblk, hsr2.trans hs2, ?_⟩, by simp [intOf]⟩
          show _ = _
          rw [← HI.out, heapPop]
    · have hz : (0 : Int) ≤ ((k + 1 : Nat) : Int) - 1 := by omega
      have CH := HC.out _ _ HS.out k (b - a) (by omega) (by omega)
      go_wp2_with fail
      refine CH.mono ?_; rintro e w1 ⟨rfl, hs2⟩
      go_wp2_with fail
      refine ⟨⟨k, _, rfl, by omega, DB.kept ⟨c0, c1⟩ hs2 hblk, HS.out.trans hs2, ?_⟩, by simp [intOf]⟩
      show _ = _
      rw [← HO.out, heapBuild]
end Go.Proofs.Ytjjmbldgemnhbaa
