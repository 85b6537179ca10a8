/-
  sort.partialInsertionSort_func with a 'less' that lays blocks. (Printed by wip/tools/sqins.py.)
-/
import Derived.Test.YtjjmbldgemnhbaaYSQ3
import Derived.Sort.WalkA6
namespace Go.Proofs.Ytjjmbldgemnhbaa
open Go.RowKit Go.ChangeShapes Go.WideShapes Go.Sort
set_option linter.unusedVariables false
set_option linter.unusedSimpArgs false

set_option maxHeartbeats 4000000 in
set_option maxRecDepth 1000000 in
theorem sqPartial {W0 : World} {blk n : Nat} {lt : Org → Org → Bool} {g sf : Nat} {lb sb : Array Value} (E : SE W0 blk n lt g lb sf sb) {W : World} {d : Array Org} (h : SR W0 blk n W d) (a b : Nat) (hab : a < b) (hb : b ≤ n) :
    Calls Try.prog 63 #[lessSwap g lb sf sb, .int .i64 a, .int .i64 b] W fun e w' => e = .returned (.bool (partialInsertionSort lt d a b).2) ∧ SR W0 blk n w' (partialInsertionSort lt d a b).1 := by
  have HE := Lib.hid E
  have EG := E.enter
  have HH := Lib.hid h
  have hsm := E.small
  have hblk : blk < W.heap.size := Nat.lt_of_lt_of_le E.lt0 h.chg.size
  clear E h
  go_enter Try.func63, Try.ntmps63
  unfold lessSwap
  go_wp2_with fail
  go_loopw [7, 8] (fun v7 v8 wr => ∃ (i s : Nat) (dk : Array Org), v7 = .int .i64 i ∧ v8 = .int .i64 s ∧ s ≤ 5 ∧ a < i ∧ i ≤ b ∧ DB W.heap.size g lb sf sb wr ∧ SR W0 blk n wr dk ∧ Hid (partialIns lt a b (5 - s) i dk = partialIns lt a b 5 (a + 1) d)) (fun _ v8 _ => 5 - (intOf v8).toNat)
  case atStart => exact ⟨a + 1, 0, d, by go_num, rfl, by omega, by omega, by omega, ⟨by simp, by simp⟩, HH.out.later ((Later.rfl' W).alloc _), rfl⟩
  case round =>
    obtain ⟨i, s, dk, rfl, rfl, hs5, hai, hib, ⟨c0, c1⟩, hsr, HO⟩ := hrel
    have HS := Lib.hid hsr
    clear hsr
    by_cases hs : s < 5
    · have zs : (s : Int) < 5 := by omega
      have HDB := Lib.hid (show DB W.heap.size g lb sf sb _ from ⟨c0, c1⟩)
      go_wp2_with fail
      go_loopw [7] (fun v7 wr => ∃ k : Nat, v7 = .int .i64 k ∧ i ≤ k ∧ k ≤ b ∧ DB W.heap.size g lb sf sb wr ∧ SR W0 blk n wr dk ∧ Hid (scanSorted lt dk b k = scanSorted lt dk b i)) (fun v7 _ => b + 1 - (intOf v7).toNat)
      case atStart => exact ⟨i, rfl, Nat.le_refl _, hib, HDB.out, HS.out, rfl⟩
      case round =>
        clear HS HDB c0 c1
        obtain ⟨k, rfl, hik, hkb, ⟨c0, c1⟩, hsr, HI⟩ := hrel
        have HS := Lib.hid hsr
        clear hsr
        by_cases hlt : k < b
        · have zlt : (k : Int) < (b : Int) := by omega
          cases hv : lt dk[k]! dk[k - 1]! with
          | false =>
            have hl := HE.out.less_at HS.out (x := (k : Int)) (y := (k : Int) - 1) k (k - 1) rfl (by omega) (by omega) (by omega) hv
            go_wp2_with fail
            refine hl.mono ?_; rintro e w2 ⟨rfl, hb2⟩
            have c2 := kept_cell hb2 c0
            have c3 := kept_cell hb2 c1
            go_wp2_with fail
            refine ⟨⟨k + 1, by go_num, by omega, by omega, ⟨c2, c3⟩, HS.out.later hb2, ?_⟩, by simp [intOf]; omega⟩
            show _ = _
            rw [← HI.out]
            exact (scanSorted_go lt dk b k hlt hv).symm
          | true =>
            have hk : scanSorted lt dk b i = k := by rw [← HI.out, scanSorted_stop lt dk b k (.inr hv)]
            have hne : k ≠ b := by omega
            have zne : ¬ (k : Int) = (b : Int) := by omega
            have zkb : ((k : Int) == (b : Int)) = false := beq_false_of_ne zne
            have hl := HE.out.less_at HS.out (x := (k : Int)) (y := (k : Int) - 1) k (k - 1) rfl (by omega) (by omega) (by omega) hv
            by_cases h50 : b - a < 50
            · have z50 : (b : Int) - (a : Int) < 50 := by omega
              have HF := Lib.hid (pi_short lt a b s i dk hs (by rw [hk]; exact hne) h50)
              clear hk HI
              go_wp2_with fail
              refine hl.mono ?_; rintro e w2 ⟨rfl, hb2⟩
              go_wp2_with fail
              go_ret
              have e : partialInsertionSort lt d a b = (dk, false) := by rw [partialInsertionSort, ← HO.out, HF.out]
              rw [e]
              exact ⟨rfl, HS.out.later hb2⟩
            · have z50 : ¬ (b : Int) - (a : Int) < 50 := by omega
              have HGO := Lib.hid (pi_go lt a b s i k dk hs hk hne h50)
              clear hk HI
              go_wp2_with fail
              refine hl.mono ?_; rintro e w2 ⟨rfl, hb2⟩
              have c2 := kept_cell hb2 c0
              have c3 := kept_cell hb2 c1
              have hsr2 := HS.out.later hb2
              have hsw := HE.out.swap_at hsr2 (x := (k : Int)) (y := (k : Int) - 1) k (k - 1) rfl (by omega) (by omega) (by omega)
              have HD2 := Lib.hid (DB.swap (i := k) (j := k - 1) ⟨c2, c3⟩ hsr2 hblk)
              have HS2 := Lib.hid (hsr2.swap (i := k) (j := k - 1) (by omega) (by omega))
              clear hsr2 HS c0 c1 hl
              obtain ⟨c0, c1⟩ := HD2.out
              have HS := HS2
              clear HS2 HD2 hv
              by_cases h1 : 2 ≤ k - a
              · have z1 : (2 : Int) ≤ (k : Int) - (a : Int) := by omega
                have HG := Lib.hid (show fixDown lt a k (swp dk k (k - 1)) = shiftDown lt (k - 1) (swp dk k (k - 1)) by rw [fixDown, if_pos h1])
                have HDB := Lib.hid (show DB W.heap.size g lb sf sb _ from ⟨c0, c1⟩)
                go_wp2_with fail
                go_loopw [9] (fun v9 wr => ∃ (j : Nat) (dj : Array Org), v9 = .int .i64 j ∧ j < k ∧ DB W.heap.size g lb sf sb wr ∧ SR W0 blk n wr dj ∧ Hid (shiftDown lt j dj = shiftDown lt (k - 1) (swp dk k (k - 1)))) (fun v9 _ => (intOf v9).toNat)
                case atStart => exact ⟨k - 1, _, by go_num, by omega, HDB.out, HS.out, rfl⟩
                case round =>
                  clear HS HDB c0 c1
                  obtain ⟨j, d2, rfl, hjk, ⟨c0, c1⟩, hsr, HI⟩ := hrel
                  have HS := Lib.hid hsr
                  clear hsr
                  by_cases hj : 1 ≤ j
                  · have zj : (1 : Int) ≤ (j : Int) := by omega
                    cases hv : lt d2[j]! d2[j - 1]! with
                    | true =>
                      have hl := HE.out.less_at HS.out (x := (j : Int)) (y := (j : Int) - 1) j (j - 1) rfl (by omega) (by omega) (by omega) hv
                      go_wp2_with fail
                      refine hl.mono ?_; rintro e w2 ⟨rfl, hb2⟩
                      have c2 := kept_cell hb2 c0
                      have c3 := kept_cell hb2 c1
                      have hsr2 := HS.out.later hb2
                      have hsw := HE.out.swap_at hsr2 (x := (j : Int)) (y := (j : Int) - 1) j (j - 1) rfl (by omega) (by omega) (by omega)
                      have HS2 := Lib.hid hsr2
                      clear hsr2
                      go_wp2_with fail
                      refine ⟨⟨j - 1, swp d2 j (j - 1), by go_num, by omega, DB.swap ⟨c2, c3⟩ HS2.out hblk, HS2.out.swap (by omega) (by omega), ?_⟩, by simp [intOf]; omega⟩
                      show _ = _
                      rw [← HI.out]
                      exact (shiftDown_go lt j d2 hj hv).symm
                    | false =>
                      have HDN := Lib.hid (show fixDown lt a k (swp dk k (k - 1)) = d2 by rw [HG.out, ← HI.out, shiftDown_stop lt j d2 (.inr hv)])
                      have hl := HE.out.less_at HS.out (x := (j : Int)) (y := (j : Int) - 1) j (j - 1) rfl (by omega) (by omega) (by omega) hv
                      go_wp2_with fail
                      refine hl.mono ?_; rintro e w2 ⟨rfl, hb2⟩
                      have c2 := kept_cell hb2 c0
                      have c3 := kept_cell hb2 c1
                      have hsr2 := HS.out.later hb2
                      clear c0 c1 HS hl HI HG
                      have c0 := c2
                      have c1 := c3
                      have HS := Lib.hid hsr2
                      clear c2 c3 hsr2 hb2 hv
                      by_cases h2 : 2 ≤ b - k
                      · have z2 : (2 : Int) ≤ (b : Int) - (k : Int) := by omega
                        have HF := Lib.hid (show fixUp lt b k d2 = shiftUp lt b (k + 1) d2 by rw [fixUp, if_pos h2])
                        have HDB := Lib.hid (show DB W.heap.size g lb sf sb _ from ⟨c0, c1⟩)
                        go_wp2_with fail
                        go_loopw [10] (fun v10 wr => ∃ (j : Nat) (dj : Array Org), v10 = .int .i64 j ∧ k + 1 ≤ j ∧ j ≤ b ∧ DB W.heap.size g lb sf sb wr ∧ SR W0 blk n wr dj ∧ Hid (shiftUp lt b j dj = shiftUp lt b (k + 1) d2)) (fun v10 _ => b + 1 - (intOf v10).toNat)
                        case atStart => exact ⟨k + 1, d2, by go_num, by omega, by omega, HDB.out, HS.out, rfl⟩
                        case round =>
                          clear HS HDB c0 c1
                          obtain ⟨j, dj, rfl, hkj, hjb, ⟨c0, c1⟩, hsr, HI⟩ := hrel
                          have HS := Lib.hid hsr
                          clear hsr
                          by_cases hlt : j < b
                          · have zlt : (j : Int) < (b : Int) := by omega
                            cases hv : lt dj[j]! dj[j - 1]! with
                            | true =>
                              have hl := HE.out.less_at HS.out (x := (j : Int)) (y := (j : Int) - 1) j (j - 1) rfl (by omega) (by omega) (by omega) hv
                              go_wp2_with fail
                              refine hl.mono ?_; rintro e w2 ⟨rfl, hb2⟩
                              have c2 := kept_cell hb2 c0
                              have c3 := kept_cell hb2 c1
                              have hsr2 := HS.out.later hb2
                              have hsw := HE.out.swap_at hsr2 (x := (j : Int)) (y := (j : Int) - 1) j (j - 1) rfl (by omega) (by omega) (by omega)
                              have HS2 := Lib.hid hsr2
                              clear hsr2
                              go_wp2_with fail
                              refine ⟨⟨j + 1, swp dj j (j - 1), by go_num, by omega, by omega, DB.swap ⟨c2, c3⟩ HS2.out hblk, HS2.out.swap (by omega) (by omega), ?_⟩, by simp [intOf]; omega⟩
                              show _ = _
                              rw [← HI.out]
                              exact (shiftUp_go lt b j dj hlt hv).symm
                            | false =>
                              have hl := HE.out.less_at HS.out (x := (j : Int)) (y := (j : Int) - 1) j (j - 1) rfl (by omega) (by omega) (by omega) hv
                              go_wp2_with fail
                              refine hl.mono ?_; rintro e w2 ⟨rfl, hb2⟩
                              have c2 := kept_cell hb2 c0
                              have c3 := kept_cell hb2 c1
                              go_wp2_with fail
                              refine ⟨⟨k, s + 1, dj, rfl, by go_num, by omega, by omega, by omega, ⟨c2, c3⟩, HS.out.later hb2, ?_⟩, by simp [intOf]; omega⟩
                              show _ = _
                              rw [← HO.out, HGO.out, HDN.out, HF.out, ← HI.out, shiftUp_stop lt b j dj (.inr hv)]
                          · have zlt : ¬ (j : Int) < (b : Int) := by omega
                            go_wp2_with fail
                            refine ⟨⟨k, s + 1, dj, rfl, by go_num, by omega, by omega, by omega, ⟨c0, c1⟩, HS.out, ?_⟩, by simp [intOf]; omega⟩
                            show _ = _
                            rw [← HO.out, HGO.out, HDN.out, HF.out, ← HI.out, shiftUp_stop lt b j dj (.inl hlt)]
                      · have z2 : ¬ (2 : Int) ≤ (b : Int) - (k : Int) := by omega
                        have HF := Lib.hid (show fixUp lt b k d2 = d2 by rw [fixUp, if_neg h2])
                        go_wp2_with fail
                        refine ⟨⟨k, s + 1, d2, rfl, by go_num, by omega, by omega, by omega, ⟨c0, c1⟩, HS.out, ?_⟩, by simp [intOf]; omega⟩
                        show _ = _
                        rw [← HO.out, HGO.out, HDN.out, HF.out]
                  · have HDN := Lib.hid (show fixDown lt a k (swp dk k (k - 1)) = d2 by rw [HG.out, ← HI.out, shiftDown_stop lt j d2 (.inl (by omega))])
                    have zj : ¬ (1 : Int) ≤ (j : Int) := by omega
                    clear HI HG
                    by_cases h2 : 2 ≤ b - k
                    · have z2 : (2 : Int) ≤ (b : Int) - (k : Int) := by omega
                      have HF := Lib.hid (show fixUp lt b k d2 = shiftUp lt b (k + 1) d2 by rw [fixUp, if_pos h2])
                      have HDB := Lib.hid (show DB W.heap.size g lb sf sb _ from ⟨c0, c1⟩)
                      go_wp2_with fail
                      go_loopw [10] (fun v10 wr => ∃ (j : Nat) (dj : Array Org), v10 = .int .i64 j ∧ k + 1 ≤ j ∧ j ≤ b ∧ DB W.heap.size g lb sf sb wr ∧ SR W0 blk n wr dj ∧ Hid (shiftUp lt b j dj = shiftUp lt b (k + 1) d2)) (fun v10 _ => b + 1 - (intOf v10).toNat)
                      case atStart => exact ⟨k + 1, d2, by go_num, by omega, by omega, HDB.out, HS.out, rfl⟩
                      case round =>
                        clear HS HDB c0 c1
                        obtain ⟨j, dj, rfl, hkj, hjb, ⟨c0, c1⟩, hsr, HI⟩ := hrel
                        have HS := Lib.hid hsr
                        clear hsr
                        by_cases hlt : j < b
                        · have zlt : (j : Int) < (b : Int) := by omega
                          cases hv : lt dj[j]! dj[j - 1]! with
                          | true =>
                            have hl := HE.out.less_at HS.out (x := (j : Int)) (y := (j : Int) - 1) j (j - 1) rfl (by omega) (by omega) (by omega) hv
                            go_wp2_with fail
                            refine hl.mono ?_; rintro e w2 ⟨rfl, hb2⟩
                            have c2 := kept_cell hb2 c0
                            have c3 := kept_cell hb2 c1
                            have hsr2 := HS.out.later hb2
                            have hsw := HE.out.swap_at hsr2 (x := (j : Int)) (y := (j : Int) - 1) j (j - 1) rfl (by omega) (by omega) (by omega)
                            have HS2 := Lib.hid hsr2
                            clear hsr2
                            go_wp2_with fail
                            refine ⟨⟨j + 1, swp dj j (j - 1), by go_num, by omega, by omega, DB.swap ⟨c2, c3⟩ HS2.out hblk, HS2.out.swap (by omega) (by omega), ?_⟩, by simp [intOf]; omega⟩
                            show _ = _
                            rw [← HI.out]
                            exact (shiftUp_go lt b j dj hlt hv).symm
                          | false =>
                            have hl := HE.out.less_at HS.out (x := (j : Int)) (y := (j : Int) - 1) j (j - 1) rfl (by omega) (by omega) (by omega) hv
                            go_wp2_with fail
                            refine hl.mono ?_; rintro e w2 ⟨rfl, hb2⟩
                            have c2 := kept_cell hb2 c0
                            have c3 := kept_cell hb2 c1
                            go_wp2_with fail
                            refine ⟨⟨k, s + 1, dj, rfl, by go_num, by omega, by omega, by omega, ⟨c2, c3⟩, HS.out.later hb2, ?_⟩, by simp [intOf]; omega⟩
                            show _ = _
                            rw [← HO.out, HGO.out, HDN.out, HF.out, ← HI.out, shiftUp_stop lt b j dj (.inr hv)]
                        · have zlt : ¬ (j : Int) < (b : Int) := by omega
                          go_wp2_with fail
                          refine ⟨⟨k, s + 1, dj, rfl, by go_num, by omega, by omega, by omega, ⟨c0, c1⟩, HS.out, ?_⟩, by simp [intOf]; omega⟩
                          show _ = _
                          rw [← HO.out, HGO.out, HDN.out, HF.out, ← HI.out, shiftUp_stop lt b j dj (.inl hlt)]
                    · have z2 : ¬ (2 : Int) ≤ (b : Int) - (k : Int) := by omega
                      have HF := Lib.hid (show fixUp lt b k d2 = d2 by rw [fixUp, if_neg h2])
                      go_wp2_with fail
                      refine ⟨⟨k, s + 1, d2, rfl, by go_num, by omega, by omega, by omega, ⟨c0, c1⟩, HS.out, ?_⟩, by simp [intOf]; omega⟩
                      show _ = _
                      rw [← HO.out, HGO.out, HDN.out, HF.out]
              · have z1 : ¬ (2 : Int) ≤ (k : Int) - (a : Int) := by omega
                obtain ⟨d2, hd2⟩ : ∃ d2, d2 = swp dk k (k - 1) := ⟨_, rfl⟩
                have HDN := Lib.hid (show fixDown lt a k (swp dk k (k - 1)) = d2 by rw [fixDown, if_neg h1, hd2])
                rw [← hd2] at HS
                clear hd2
                by_cases h2 : 2 ≤ b - k
                · have z2 : (2 : Int) ≤ (b : Int) - (k : Int) := by omega
                  have HF := Lib.hid (show fixUp lt b k d2 = shiftUp lt b (k + 1) d2 by rw [fixUp, if_pos h2])
                  have HDB := Lib.hid (show DB W.heap.size g lb sf sb _ from ⟨c0, c1⟩)
                  go_wp2_with fail
                  go_loopw [10] (fun v10 wr => ∃ (j : Nat) (dj : Array Org), v10 = .int .i64 j ∧ k + 1 ≤ j ∧ j ≤ b ∧ DB W.heap.size g lb sf sb wr ∧ SR W0 blk n wr dj ∧ Hid (shiftUp lt b j dj = shiftUp lt b (k + 1) d2)) (fun v10 _ => b + 1 - (intOf v10).toNat)
                  case atStart => exact ⟨k + 1, d2, by go_num, by omega, by omega, HDB.out, HS.out, rfl⟩
                  case round =>
                    clear HS HDB c0 c1
                    obtain ⟨j, dj, rfl, hkj, hjb, ⟨c0, c1⟩, hsr, HI⟩ := hrel
                    have HS := Lib.hid hsr
                    clear hsr
                    by_cases hlt : j < b
                    · have zlt : (j : Int) < (b : Int) := by omega
                      cases hv : lt dj[j]! dj[j - 1]! with
                      | true =>
                        have hl := HE.out.less_at HS.out (x := (j : Int)) (y := (j : Int) - 1) j (j - 1) rfl (by omega) (by omega) (by omega) hv
                        go_wp2_with fail
                        refine hl.mono ?_; rintro e w2 ⟨rfl, hb2⟩
                        have c2 := kept_cell hb2 c0
                        have c3 := kept_cell hb2 c1
                        have hsr2 := HS.out.later hb2
                        have hsw := HE.out.swap_at hsr2 (x := (j : Int)) (y := (j : Int) - 1) j (j - 1) rfl (by omega) (by omega) (by omega)
                        have HS2 := Lib.hid hsr2
                        clear hsr2
                        go_wp2_with fail
                        refine ⟨⟨j + 1, swp dj j (j - 1), by go_num, by omega, by omega, DB.swap ⟨c2, c3⟩ HS2.out hblk, HS2.out.swap (by omega) (by omega), ?_⟩, by simp [intOf]; omega⟩
                        show _ = _
                        rw [← HI.out]
                        exact (shiftUp_go lt b j dj hlt hv).symm
                      | false =>
                        have hl := HE.out.less_at HS.out (x := (j : Int)) (y := (j : Int) - 1) j (j - 1) rfl (by omega) (by omega) (by omega) hv
                        go_wp2_with fail
                        refine hl.mono ?_; rintro e w2 ⟨rfl, hb2⟩
                        have c2 := kept_cell hb2 c0
                        have c3 := kept_cell hb2 c1
                        go_wp2_with fail
                        refine ⟨⟨k, s + 1, dj, rfl, by go_num, by omega, by omega, by omega, ⟨c2, c3⟩, HS.out.later hb2, ?_⟩, by simp [intOf]; omega⟩
                        show _ = _
                        rw [← HO.out, HGO.out, HDN.out, HF.out, ← HI.out, shiftUp_stop lt b j dj (.inr hv)]
                    · have zlt : ¬ (j : Int) < (b : Int) := by omega
                      go_wp2_with fail
                      refine ⟨⟨k, s + 1, dj, rfl, by go_num, by omega, by omega, by omega, ⟨c0, c1⟩, HS.out, ?_⟩, by simp [intOf]; omega⟩
                      show _ = _
                      rw [← HO.out, HGO.out, HDN.out, HF.out, ← HI.out, shiftUp_stop lt b j dj (.inl hlt)]
                · omega
        · have zlt : ¬ (k : Int) < (b : Int) := by omega
          have hk : k = b := by omega
          have HF := Lib.hid (pi_true lt a b s i dk hs (by rw [← HI.out, scanSorted_stop lt dk b k (.inl hlt), hk]))
          subst hk
          clear HI
          go_wp2_with fail
          go_ret
          have e : partialInsertionSort lt d a k = (dk, true) := by rw [partialInsertionSort, ← HO.out, HF.out]
          rw [e]
          exact ⟨rfl, HS.out⟩
    · have zs : ¬ (s : Int) < 5 := by omega
      have hs' : s = 5 := by omega
      subst hs'
      go_wp2_with fail
      go_ret
      have e : partialInsertionSort lt d a b = (dk, false) := by rw [partialInsertionSort, ← HO.out, pi_end]
      rw [e]
      exact ⟨rfl, HS.out⟩
end Go.Proofs.Ytjjmbldgemnhbaa
