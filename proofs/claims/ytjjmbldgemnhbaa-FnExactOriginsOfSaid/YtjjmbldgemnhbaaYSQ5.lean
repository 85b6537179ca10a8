/-
  sort.choosePivot_func with a 'less' that lays blocks.
-/
import Derived.Test.YtjjmbldgemnhbaaYSQ4
namespace Go.Proofs.Ytjjmbldgemnhbaa
open Go.RowKit Go.ChangeShapes Go.WideShapes Go.Sort
set_option linter.unusedVariables false
set_option linter.unusedSimpArgs false

theorem median_lt {lt : Org → Org → Bool} {d : Array Org} {n a b c : Nat} (s : Nat) (ha : a < n) (hb : b < n) (hc : c < n) : (median lt d a b c s).1 < n := by
  rcases median_mem lt d a b c s with h | h | h <;> omega
theorem adjacent_lt {lt : Org → Org → Bool} {d : Array Org} {n a : Nat} (s : Nat) (ha : a + 1 < n) : (medianAdjacent lt d a s).1 < n := by
  rcases medianAdjacent_mem lt d a s with h | h | h <;> omega

set_option maxHeartbeats 4000000 in
set_option maxRecDepth 1000000 in
theorem sqChoose {W0 : World} {blk n : Nat} {lt : Org → Org → Bool} {g sf : Nat} {lb sb : Array Value} (E : SE W0 blk n lt g lb sf sb) {W : World} {d : Array Org} (h : SR W0 blk n W d) (a b : Nat) (hab : a < b) (hb : b ≤ n) :
    Calls Try.prog 61 #[lessSwap g lb sf sb, .int .i64 a, .int .i64 b] W fun e w' => e = .returned (.tuple #[.int .i64 (choosePivot lt d a b).1, .int .i64 (hintCode (choosePivot lt d a b).2)]) ∧ SR W0 blk n w' d := by
  have HE := Lib.hid E
  have HH := Lib.hid h
  have hsm := E.small
  have hblk : blk < W.heap.size := Nat.lt_of_lt_of_le E.lt0 h.chg.size
  have hq0 : W0.heap.size ≤ W.heap.size + 1 := by have := h.chg.size; omega
  have hqb : W.heap.size + 1 ≠ blk := by omega
  have hsub : (b : Int) - (a : Int) = ((b - a : Nat) : Int) := by omega
  have hq4 : (((b - a : Nat) : Int)).tdiv 4 = (((b - a) / 4 : Nat) : Int) := rfl
  rw [choosePivot_eq]
  obtain ⟨W2, hW2⟩ : ∃ W2, W2 = ((W.alloc (.cells #[.func (.func g) #[] lb, .func (.func sf) #[] sb] 80)).alloc (.cells #[.int .i64 0] 3)) := ⟨_, rfl⟩
  have hl2 : Later W W2 := by rw [hW2]; exact ((Later.rfl' W).alloc _).alloc _
  have hct : CT (W.heap.size + 1) 0 W2 := by rw [hW2]; exact ⟨by simp, by simp⟩
  have c0 : W2.cell? ⟨W.heap.size, 0, none⟩ = some (.func (.func g) #[] lb) := by rw [hW2]; simp
  have c1 : W2.cell? ⟨W.heap.size, 1, none⟩ = some (.func (.func sf) #[] sb) := by rw [hW2]; simp
  have H2 := Lib.hid (h.later hl2)
  have HCT := Lib.hid hct
  have H0 := Lib.hid c0
  have H1 := Lib.hid c1
  clear E h hct c0 c1 hl2
  obtain ⟨i, hi⟩ : ∃ i, i = a + (b - a) / 4 * 1 := ⟨_, rfl⟩
  obtain ⟨j, hj⟩ : ∃ j, j = a + (b - a) / 4 * 2 := ⟨_, rfl⟩
  obtain ⟨k, hk⟩ : ∃ k, k = a + (b - a) / 4 * 3 := ⟨_, rfl⟩
  have ei : (a : Int) + ((b - a : Nat) : Int) / 4 = (i : Int) := by omega
  have ej : (a : Int) + ((b - a : Nat) : Int) / 4 * 2 = (j : Int) := by omega
  have ek : (a : Int) + ((b - a : Nat) : Int) / 4 * 3 = (k : Int) := by omega
  go_enter Try.func61, Try.ntmps61
  unfold lessSwap
  by_cases h8 : 8 ≤ b - a
  · have z8 : (8 : Int) ≤ ((b - a : Nat) : Int) := by omega
    by_cases h50 : 50 ≤ b - a
    · have z50 : (50 : Int) ≤ ((b - a : Nat) : Int) := by omega
      have hraw : rawPivot lt d a b = median lt d (medianAdjacent lt d i 0).1 (medianAdjacent lt d j (medianAdjacent lt d i 0).2).1 (medianAdjacent lt d k (medianAdjacent lt d j (medianAdjacent lt d i 0).2).2).1 (medianAdjacent lt d k (medianAdjacent lt d j (medianAdjacent lt d i 0).2).2).2 := by
        rw [rawPivot, if_pos h8, if_pos h50, hi, hj, hk]
      rw [hraw]
      have C1 := sqMedianAdjacent HE.out H2.out hq0 HCT.out (by omega) i (by omega) (by omega)
      have l1 := adjacent_lt (lt := lt) (d := d) (n := n) (a := i) 0 (by omega)
      have n1 := medianAdjacent_count lt d i 0
      clear hraw
      generalize medianAdjacent lt d i 0 = r1 at *
      obtain ⟨x1, s1⟩ := r1
      simp only [] at *
      have C2 := fun w (h : SR W0 blk n w d) (q : CT (W.heap.size + 1) s1 w) => sqMedianAdjacent HE.out h hq0 q (by omega) j (by omega) (by omega)
      have l2 := adjacent_lt (lt := lt) (d := d) (n := n) (a := j) s1 (by omega)
      have n2 := medianAdjacent_count lt d j s1
      generalize medianAdjacent lt d j s1 = r2 at *
      obtain ⟨x2, s2⟩ := r2
      simp only [] at *
      have C3 := fun w (h : SR W0 blk n w d) (q : CT (W.heap.size + 1) s2 w) => sqMedianAdjacent HE.out h hq0 q (by omega) k (by omega) (by omega)
      have l3 := adjacent_lt (lt := lt) (d := d) (n := n) (a := k) s2 (by omega)
      have n3 := medianAdjacent_count lt d k s2
      generalize medianAdjacent lt d k s2 = r3 at *
      obtain ⟨x3, s3⟩ := r3
      simp only [] at *
      have C4 := fun w (h : SR W0 blk n w d) (q : CT (W.heap.size + 1) s3 w) => sqMedian HE.out h hq0 q (by omega) x1 x2 x3 l1 l2 l3
      have n4 := median_count lt d x1 x2 x3 s3
      generalize median lt d x1 x2 x3 s3 = r4 at *
      obtain ⟨x4, s'⟩ := r4
      simp only [] at *
      unfold lessSwap at *
      have HC2 := Lib.hid C2
      have HC3 := Lib.hid C3
      have HC4 := Lib.hid C4
      have EI := Lib.hid ei
      have EJ := Lib.hid ej
      have EK := Lib.hid ek
      clear C2 C3 C4 l1 n1 l2 n2 l3 n3 n4 ei ej ek hi hj hk
      go_wp2_with fail
      rw [← hW2, EI.out]
      refine C1.mono ?_; rintro e w1 ⟨rfl, hk1, hg1⟩
      have c0 := chg_cell hg1 H0.out (by omega)
      have c1 := chg_cell hg1 H1.out (by omega)
      have S1 := H2.out.ct hg1 hq0 hqb
      have C2 := HC2.out w1 S1 hk1
      have HS1 := Lib.hid S1
      clear C1 S1
      go_wp2_with fail
      rw [EJ.out]
      refine C2.mono ?_; rintro e w2 ⟨rfl, hk2, hg2⟩
      have c2 := chg_cell hg2 c0 (by omega)
      have c3 := chg_cell hg2 c1 (by omega)
      have S2 := HS1.out.ct hg2 hq0 hqb
      have C3 := HC3.out w2 S2 hk2
      have HS2 := Lib.hid S2
      clear C2 S2
      go_wp2_with fail
      rw [EK.out]
      refine C3.mono ?_; rintro e w3 ⟨rfl, hk3, hg3⟩
      have c4 := chg_cell hg3 c2 (by omega)
      have c5 := chg_cell hg3 c3 (by omega)
      have S3 := HS2.out.ct hg3 hq0 hqb
      have C4 := HC4.out w3 S3 hk3
      have HS3 := Lib.hid S3
      clear C3 S3
      go_wp2_with fail
      refine C4.mono ?_; rintro e w4 ⟨rfl, hk4, hg4⟩
      have HS4 := Lib.hid (HS3.out.ct hg4 hq0 hqb)
      obtain ⟨hc0, hc1⟩ := hk4
      by_cases e0 : s' = 0
      · subst e0
        go_wp2_with fail
        go_ret2
        exact ⟨rfl, HS4.out⟩
      · have z0 : ¬ (s' : Int) = 0 := by omega
        by_cases e1 : s' = 12
        · subst e1
          go_wp2_with fail
          go_ret2
          exact ⟨rfl, HS4.out⟩
        · have z1 : ¬ (s' : Int) = 12 := by omega
          go_wp2_with fail
          go_ret2
          refine ⟨?_, HS4.out⟩
          rw [show hintOf s' = .unknown by rw [hintOf, if_neg e0, if_neg e1]]
          rfl
    · have z50 : ¬ (50 : Int) ≤ ((b - a : Nat) : Int) := by omega
      rw [show rawPivot lt d a b = median lt d i j k 0 by rw [rawPivot, if_pos h8, if_neg h50, hi, hj, hk]]
      have C4 := sqMedian HE.out H2.out hq0 HCT.out (by omega) i j k (by omega) (by omega) (by omega)
      have n4 := median_count lt d i j k 0
      generalize median lt d i j k 0 = r4 at *
      obtain ⟨x4, s'⟩ := r4
      simp only [] at *
      unfold lessSwap at *
      have EI := Lib.hid ei
      have EJ := Lib.hid ej
      have EK := Lib.hid ek
      clear n4 ei ej ek hi hj hk
      go_wp2_with fail
      rw [← hW2, EI.out, EJ.out, EK.out]
      refine C4.mono ?_; rintro e w4 ⟨rfl, hk4, hg4⟩
      have HS4 := Lib.hid (H2.out.ct hg4 hq0 hqb)
      obtain ⟨hc0, hc1⟩ := hk4
      by_cases e0 : s' = 0
      · subst e0
        go_wp2_with fail
        go_ret2
        exact ⟨rfl, HS4.out⟩
      · have z0 : ¬ (s' : Int) = 0 := by omega
        by_cases e1 : s' = 12
        · subst e1
          go_wp2_with fail
          go_ret2
          exact ⟨rfl, HS4.out⟩
        · have z1 : ¬ (s' : Int) = 12 := by omega
          go_wp2_with fail
          go_ret2
          refine ⟨?_, HS4.out⟩
          rw [show hintOf s' = .unknown by rw [hintOf, if_neg e0, if_neg e1]]
          rfl
  · have z8 : ¬ (8 : Int) ≤ ((b - a : Nat) : Int) := by omega
    rw [show rawPivot lt d a b = (a + (b - a) / 4 * 2, 0) by rw [rawPivot, if_neg h8]]
    clear ei ej ek hi hj hk
    go_wp2_with fail
    go_ret2
    rw [← hW2]
    exact ⟨rfl, H2.out⟩
end Go.Proofs.Ytjjmbldgemnhbaa
