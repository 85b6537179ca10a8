/-
  sort.siftDown_func and sort.heapSort_func with a 'less' that lays blocks.
-/
import Derived.Test.YtjjmbldgemnhbaaYSQ1
import Derived.Sort.WalkB2
namespace Go.Proofs.Ytjjmbldgemnhbaa
open Go.RowKit Go.ChangeShapes Go.WideShapes Go.Sort
set_option linter.unusedVariables false
set_option linter.unusedSimpArgs false

set_option maxHeartbeats 4000000 in
set_option maxRecDepth 1000000 in
theorem sqSiftDown {W0 : World} {blk n : Nat} {lt : Org → Org → Bool} {g sf : Nat} {lb sb : Array Value} (E : SE W0 blk n lt g lb sf sb) {W : World} {d : Array Org} (h : SR W0 blk n W d) (lo hi first : Nat) (hlo : lo ≤ hi) (hb : first + hi ≤ n) :
    Calls Try.prog 69 #[lessSwap g lb sf sb, .int .i64 lo, .int .i64 hi, .int .i64 first] W fun e w' => e = .returned (.tuple #[]) ∧ SR W0 blk n w' (siftDown lt hi first lo d) := by
  have EG := E.enter
  have HE := Lib.hid E
  have HH := Lib.hid h
  have hsm := E.small
  have hblk : blk < W.heap.size := Nat.lt_of_lt_of_le E.lt0 h.chg.size
  clear E h
  go_enter Try.func69, Try.ntmps69
  unfold lessSwap
  go_wp2_with fail
  go_loopw [8] (fun v8 wr => ∃ (root : Nat) (dk : Array Org), v8 = .int .i64 root ∧ root ≤ hi ∧ DB W.heap.size g lb sf sb wr ∧ SR W0 blk n wr dk ∧ Hid (siftDown lt hi first root dk = siftDown lt hi first lo d)) (fun v8 _ => hi - (intOf v8).toNat)
  case atStart => exact ⟨lo, d, rfl, hlo, ⟨by simp, by simp⟩, HH.out.later ((Later.rfl' _).alloc _), rfl⟩
  case round =>
    obtain ⟨root, dk, rfl, hr, ⟨c0, c1⟩, hsr, HO⟩ := hrel
    have HS := Lib.hid hsr
    clear hsr
    by_cases h0 : hi ≤ 2 * root + 1
    · have h0z : (hi : Int) ≤ 2 * (root : Int) + 1 := by omega
      go_wp2_with fail
      go_end0
      refine ⟨rfl, ?_⟩
      rw [← HO.out, sd_end lt dk h0]
      exact HS.out
    · have h0z : ¬ ((hi : Int) ≤ 2 * (root : Int) + 1) := by omega
      by_cases h1 : 2 * root + 2 < hi
      · have h1z : 2 * (root : Int) + 1 + 1 < (hi : Int) := by omega
        cases hL : lt dk[first + (2 * root + 1)]! dk[first + (2 * root + 2)]! with
        | true =>
          have hl1 := HE.out.less_at HS.out (x := (first : Int) + (2 * (root : Int) + 1)) (y := (first : Int) + (2 * (root : Int) + 1) + 1) (first + (2 * root + 1)) (first + (2 * root + 2)) (by omega) (by omega) (by omega) (by omega) hL
          go_wp2_with fail
          refine hl1.mono ?_; rintro e w1 ⟨rfl, hb1⟩
          have c2 := kept_cell hb1 c0
          have c3 := kept_cell hb1 c1
          have HS1 := Lib.hid (HS.out.later hb1)
          clear HS hl1
          cases hG : lt dk[first + root]! dk[first + (2 * root + 2)]! with
          | true =>
            have hl2 := HE.out.less_at HS1.out (x := (first : Int) + (root : Int)) (y := (first : Int) + (2 * (root : Int) + 1 + 1)) (first + root) (first + (2 * root + 2)) (by omega) (by omega) (by omega) (by omega) hG
            go_wp2_with fail
            refine hl2.mono ?_; rintro e w2 ⟨rfl, hb2⟩
            have c4 := kept_cell hb2 c2
            have c5 := kept_cell hb2 c3
            have hsw := HE.out.swap_at (HS1.out.later hb2) (x := (first : Int) + (root : Int)) (y := (first : Int) + (2 * (root : Int) + 1 + 1)) (first + root) (first + (2 * root + 2)) (by omega) (by omega) (by omega) (by omega)
            go_wp2_with fail
            have hsr1 := HS1.out.later hb2
            refine ⟨⟨2 * root + 2, swp dk (first + root) (first + (2 * root + 2)), by go_num, by omega, DB.swap ⟨c4, c5⟩ hsr1 hblk, hsr1.swap (by omega) (by omega), ?_⟩, by simp [intOf]; omega⟩
            show _ = _
            rw [← HO.out, sd_right_go lt dk h1 hL hG]
          | false =>
            have hl2 := HE.out.less_at HS1.out (x := (first : Int) + (root : Int)) (y := (first : Int) + (2 * (root : Int) + 1 + 1)) (first + root) (first + (2 * root + 2)) (by omega) (by omega) (by omega) (by omega) hG
            go_wp2_with fail
            refine hl2.mono ?_; rintro e w2 ⟨rfl, hb2⟩
            go_wp2_with fail
            (try simp only [Exit.inBlock, Exit.then]); refine bodyPost_ret (results_none rfl _ _ _) rfl ?_
            refine ⟨rfl, ?_⟩
            rw [← HO.out, sd_right_stop lt dk h1 hL hG]
            exact HS1.out.later hb2
        | false =>
          have hl1 := HE.out.less_at HS.out (x := (first : Int) + (2 * (root : Int) + 1)) (y := (first : Int) + (2 * (root : Int) + 1) + 1) (first + (2 * root + 1)) (first + (2 * root + 2)) (by omega) (by omega) (by omega) (by omega) hL
          go_wp2_with fail
          refine hl1.mono ?_; rintro e w1 ⟨rfl, hb1⟩
          have c2 := kept_cell hb1 c0
          have c3 := kept_cell hb1 c1
          have HS1 := Lib.hid (HS.out.later hb1)
          clear HS hl1
          cases hG : lt dk[first + root]! dk[first + (2 * root + 1)]! with
          | true =>
            have hl2 := HE.out.less_at HS1.out (x := (first : Int) + (root : Int)) (y := (first : Int) + (2 * (root : Int) + 1)) (first + root) (first + (2 * root + 1)) (by omega) (by omega) (by omega) (by omega) hG
            go_wp2_with fail
            refine hl2.mono ?_; rintro e w2 ⟨rfl, hb2⟩
            have c4 := kept_cell hb2 c2
            have c5 := kept_cell hb2 c3
            have hsw := HE.out.swap_at (HS1.out.later hb2) (x := (first : Int) + (root : Int)) (y := (first : Int) + (2 * (root : Int) + 1)) (first + root) (first + (2 * root + 1)) (by omega) (by omega) (by omega) (by omega)
            go_wp2_with fail
            have hsr1 := HS1.out.later hb2
            refine ⟨⟨2 * root + 1, swp dk (first + root) (first + (2 * root + 1)), by go_num, by omega, DB.swap ⟨c4, c5⟩ hsr1 hblk, hsr1.swap (by omega) (by omega), ?_⟩, by simp [intOf]; omega⟩
            show _ = _
            rw [← HO.out, sd_left_go lt dk (by omega) (fun _ => hL) hG]
          | false =>
            have hl2 := HE.out.less_at HS1.out (x := (first : Int) + (root : Int)) (y := (first : Int) + (2 * (root : Int) + 1)) (first + root) (first + (2 * root + 1)) (by omega) (by omega) (by omega) (by omega) hG
            go_wp2_with fail
            refine hl2.mono ?_; rintro e w2 ⟨rfl, hb2⟩
            go_wp2_with fail
            (try simp only [Exit.inBlock, Exit.then]); refine bodyPost_ret (results_none rfl _ _ _) rfl ?_
            refine ⟨rfl, ?_⟩
            rw [← HO.out, sd_left_stop lt dk (by omega) (fun _ => hL) hG]
            exact HS1.out.later hb2
      · have h1z : ¬ (2 * (root : Int) + 1 + 1 < (hi : Int)) := by omega
        cases hG : lt dk[first + root]! dk[first + (2 * root + 1)]! with
        | true =>
          have hl2 := HE.out.less_at HS.out (x := (first : Int) + (root : Int)) (y := (first : Int) + (2 * (root : Int) + 1)) (first + root) (first + (2 * root + 1)) (by omega) (by omega) (by omega) (by omega) hG
          go_wp2_with fail
          refine hl2.mono ?_; rintro e w2 ⟨rfl, hb2⟩
          have c4 := kept_cell hb2 c0
          have c5 := kept_cell hb2 c1
          have hsw := HE.out.swap_at (HS.out.later hb2) (x := (first : Int) + (root : Int)) (y := (first : Int) + (2 * (root : Int) + 1)) (first + root) (first + (2 * root + 1)) (by omega) (by omega) (by omega) (by omega)
          go_wp2_with fail
          have hsr1 := HS.out.later hb2
          refine ⟨⟨2 * root + 1, swp dk (first + root) (first + (2 * root + 1)), by go_num, by omega, DB.swap ⟨c4, c5⟩ hsr1 hblk, hsr1.swap (by omega) (by omega), ?_⟩, by simp [intOf]; omega⟩
          show _ = _
          rw [← HO.out, sd_left_go lt dk (by omega) (fun h => absurd h h1) hG]
        | false =>
          have hl2 := HE.out.less_at HS.out (x := (first : Int) + (root : Int)) (y := (first : Int) + (2 * (root : Int) + 1)) (first + root) (first + (2 * root + 1)) (by omega) (by omega) (by omega) (by omega) hG
          go_wp2_with fail
          refine hl2.mono ?_; rintro e w2 ⟨rfl, hb2⟩
          go_wp2_with fail
          (try simp only [Exit.inBlock, Exit.then]); refine bodyPost_ret (results_none rfl _ _ _) rfl ?_
          refine ⟨rfl, ?_⟩
          rw [← HO.out, sd_left_stop lt dk (by omega) (fun h => absurd h h1) hG]
          exact HS.out.later hb2
end Go.Proofs.Ytjjmbldgemnhbaa
