/-
  sort.partitionEqual_func with a 'less' that lays blocks. (Printed by wip/tools/sqpart.py.)
-/
import Derived.Test.YtjjmbldgemnhbaaYSQ3
import Derived.Sort.WalkC
namespace Go.Proofs.Ytjjmbldgemnhbaa
open Go.RowKit Go.ChangeShapes Go.WideShapes Go.Sort
set_option linter.unusedVariables false
set_option linter.unusedSimpArgs false

set_option maxHeartbeats 4000000 in
set_option maxRecDepth 1000000 in
theorem sqPartEq {W0 : World} {blk n : Nat} {lt : Org → Org → Bool} {g sf : Nat} {lb sb : Array Value} (E : SE W0 blk n lt g lb sf sb) {W : World} {d : Array Org} (h : SR W0 blk n W d) (a b pivot : Nat) (hab : a < b) (hb : b ≤ n) (hp : pivot < n) :
    Calls Try.prog 64 #[lessSwap g lb sf sb, .int .i64 a, .int .i64 b, .int .i64 pivot] W fun e w' => e = .returned (.int .i64 (partitionEqual lt d a b pivot).1) ∧ SR W0 blk n w' (partitionEqual lt d a b pivot).2 := by
  have HE := Lib.hid E
  have EG := E.enter
  have hsm := E.small
  have hblk : blk < W.heap.size := Nat.lt_of_lt_of_le E.lt0 h.chg.size
  obtain ⟨W1, hW1⟩ : ∃ W1, W1 = W.alloc (.cells #[.func (.func g) #[] lb, .func (.func sf) #[] sb] 80) := ⟨_, rfl⟩
  have h1 : SR W0 blk n W1 d := by rw [hW1]; exact h.later ((Later.rfl' W).alloc _)
  have hdb : DB W.heap.size g lb sf sb W1 := by rw [hW1]; exact ⟨by simp, by simp⟩
  have hsw := HE.out.swap_at h1 (x := (a : Int)) (y := (pivot : Int)) a pivot rfl rfl (by omega) (by omega)
  have HS0 := Lib.hid (h1.swap (i := a) (j := pivot) (by omega) hp)
  have HD0 := Lib.hid (DB.swap (i := a) (j := pivot) hdb h1 hblk)
  rw [hW1] at hsw HS0 HD0
  clear E h h1 hdb hW1
  go_enter Try.func64, Try.ntmps64
  unfold lessSwap
  go_wp2_with fail
  go_loopw [9, 10] (fun v9 v10 wr => ∃ (i j : Nat) (dk : Array Org), v9 = .int .i64 i ∧ v10 = .int .i64 j ∧ a < i ∧ i ≤ j + 2 ∧ j < b ∧ DB W.heap.size g lb sf sb wr ∧ SR W0 blk n wr dk ∧ Hid (partEqLoop lt a i j dk = partEqLoop lt a (a + 1) (b - 1) (swp d a pivot))) (fun v9 v10 _ => (intOf v10).toNat + 1 - (intOf v9).toNat)
  case atStart => exact ⟨a + 1, b - 1, _, by go_num, by go_num, by omega, by omega, by omega, HD0.out, HS0.out, rfl⟩
  case round =>
    clear HS0 HD0 hsw
    obtain ⟨i, j, dk, rfl, rfl, hai, hij, hjb, hdb, hsr, HO⟩ := hrel
    have HS0 := Lib.hid hsr
    have HD0 := Lib.hid hdb
    clear hsr hdb
    go_wp2_with fail
    go_loopw [9] (fun v9 wr => ∃ i2 : Nat, v9 = .int .i64 i2 ∧ i ≤ i2 ∧ i2 ≤ j + 2 ∧ DB W.heap.size g lb sf sb wr ∧ SR W0 blk n wr dk ∧ Hid (scanUp (fun x => !lt dk[a]! x) dk j i2 = scanUp (fun x => !lt dk[a]! x) dk j i)) (fun v9 _ => j + 2 - (intOf v9).toNat)
    case atStart => exact ⟨i, rfl, Nat.le_refl _, by omega, HD0.out, HS0.out, rfl⟩
    case round =>
      clear HS0 HD0
      obtain ⟨i2, rfl, hi2, hij2, ⟨c0, c1⟩, hsr, HI⟩ := hrel
      have HS := Lib.hid hsr
      clear hsr
      by_cases hle : i2 ≤ j
      · have zle : (i2 : Int) ≤ (j : Int) := by omega
        cases hv : lt dk[a]! dk[i2]! with
        | false =>
          have hl := HE.out.less_at HS.out (x := (a : Int)) (y := (i2 : Int)) a i2 rfl rfl (by omega) (by omega) hv
          go_wp2_with fail
          refine hl.mono ?_; rintro e w2 ⟨rfl, hb2⟩
          have c2 := kept_cell hb2 c0
          have c3 := kept_cell hb2 c1
          go_wp2_with fail
          refine ⟨⟨i2 + 1, by go_num, by omega, by omega, ⟨c2, c3⟩, HS.out.later hb2, ?_⟩, by simp [intOf]; omega⟩
          show _ = _
          rw [← HI.out]
          exact (scanUp_go (fun x => !lt dk[a]! x) dk j i2 hle (by simp [hv])).symm
        | true =>
          have hl := HE.out.less_at HS.out (x := (a : Int)) (y := (i2 : Int)) a i2 rfl rfl (by omega) (by omega) hv
          go_wp2_with fail
          refine hl.mono ?_; rintro e w1 ⟨rfl, hb1⟩
          have c2 := kept_cell hb1 c0
          have c3 := kept_cell hb1 c1
          go_wp2_with fail
          have HU := Lib.hid (show scanUp (fun x => !lt dk[a]! x) dk j i = i2 by rw [← HI.out]; exact scanUp_end _ _ _ _ (.inr (by simp [hv])))
          clear HI
          have HS1 := Lib.hid (HS.out.later hb1)
          have HDB := Lib.hid (show DB W.heap.size g lb sf sb w1 from ⟨c2, c3⟩)
          go_loopw [10] (fun v10 wr => ∃ j2 : Nat, v10 = .int .i64 j2 ∧ j2 ≤ j ∧ i2 ≤ j2 + 2 ∧ DB W.heap.size g lb sf sb wr ∧ SR W0 blk n wr dk ∧ Hid (scanDown (fun x => lt dk[a]! x) dk i2 j2 = scanDown (fun x => lt dk[a]! x) dk i2 j)) (fun v10 _ => (intOf v10).toNat)
          case atStart => exact ⟨j, rfl, Nat.le_refl _, by omega, HDB.out, HS1.out, rfl⟩
          case round =>
            clear HS1 HDB c2 c3 c0 c1 HS hl hb1
            obtain ⟨j2, rfl, hj2, hij2, ⟨c0, c1⟩, hsr, HD⟩ := hrel
            have HS := Lib.hid hsr
            clear hsr
            by_cases hle2 : i2 ≤ j2
            · have zle2 : (i2 : Int) ≤ (j2 : Int) := by omega
              cases hv2 : lt dk[a]! dk[j2]! with
              | true =>
                have hl := HE.out.less_at HS.out (x := (a : Int)) (y := (j2 : Int)) a j2 rfl rfl (by omega) (by omega) hv2
                go_wp2_with fail
                refine hl.mono ?_; rintro e w2 ⟨rfl, hb2⟩
                have c2 := kept_cell hb2 c0
                have c3 := kept_cell hb2 c1
                go_wp2_with fail
                refine ⟨⟨j2 - 1, by go_num, by omega, by omega, ⟨c2, c3⟩, HS.out.later hb2, ?_⟩, by simp [intOf]; omega⟩
                show _ = _
                rw [← HD.out]
                exact (scanDown_go (fun x => lt dk[a]! x) dk i2 j2 hle2 (by omega) hv2).symm
              | false =>
                have hl := HE.out.less_at HS.out (x := (a : Int)) (y := (j2 : Int)) a j2 rfl rfl (by omega) (by omega) hv2
                go_wp2_with fail
                refine hl.mono ?_; rintro e w2 ⟨rfl, hb2⟩
                have c2 := kept_cell hb2 c0
                have c3 := kept_cell hb2 c1
                have hd : scanDown (fun x => lt dk[a]! x) dk i2 j = j2 := by rw [← HD.out]; exact scanDown_end _ _ _ _ (.inr hv2)
                have heq := partEqLoop_eq lt a i j dk
                rw [HU.out, hd] at heq
                have HEQ := Lib.hid heq
                clear heq hd
                by_cases hgt : i2 > j2
                · have zgt : (j2 : Int) < (i2 : Int) := by omega
                  go_wp2_with fail
                  go_ret
                  have e : partitionEqual lt d a b pivot = (i2, dk) := by rw [partitionEqual, ← HO.out, HEQ.out, if_pos hgt]
                  rw [e]
                  exact ⟨rfl, HS.out.later hb2⟩
                · have zgt : ¬ (j2 : Int) < (i2 : Int) := by omega
                  have HS2 := Lib.hid (HS.out.later hb2)
                  have hsw := HE.out.swap_at HS2.out (x := (i2 : Int)) (y := (j2 : Int)) i2 j2 rfl rfl (by omega) (by omega)
                  go_wp2_with fail
                  refine ⟨⟨i2 + 1, j2 - 1, swp dk i2 j2, by go_num, by go_num, by omega, by omega, by omega, DB.swap ⟨c2, c3⟩ HS2.out hblk, HS2.out.swap (by omega) (by omega), ?_⟩, by simp [intOf]; omega⟩
                  show _ = _
                  rw [← HO.out, HEQ.out, if_neg hgt]
            · have zle2 : ¬ (i2 : Int) ≤ (j2 : Int) := by omega
              have hd : scanDown (fun x => lt dk[a]! x) dk i2 j = j2 := by rw [← HD.out]; exact scanDown_end _ _ _ _ (.inl hle2)
              have heq := partEqLoop_eq lt a i j dk
              rw [HU.out, hd] at heq
              have HEQ := Lib.hid heq
              clear heq hd
              by_cases hgt : i2 > j2
              · have zgt : (j2 : Int) < (i2 : Int) := by omega
                go_wp2_with fail
                go_ret
                have e : partitionEqual lt d a b pivot = (i2, dk) := by rw [partitionEqual, ← HO.out, HEQ.out, if_pos hgt]
                rw [e]
                exact ⟨rfl, HS.out⟩
              · omega
      · have zle : ¬ (i2 : Int) ≤ (j : Int) := by omega
        go_wp2_with fail
        have HU := Lib.hid (show scanUp (fun x => !lt dk[a]! x) dk j i = i2 by rw [← HI.out]; exact scanUp_end _ _ _ _ (.inl hle))
        clear HI
        have HS1 := Lib.hid (HS.out)
        have HDB := Lib.hid (show DB W.heap.size g lb sf sb _ from ⟨c0, c1⟩)
        go_loopw [10] (fun v10 wr => ∃ j2 : Nat, v10 = .int .i64 j2 ∧ j2 ≤ j ∧ i2 ≤ j2 + 2 ∧ DB W.heap.size g lb sf sb wr ∧ SR W0 blk n wr dk ∧ Hid (scanDown (fun x => lt dk[a]! x) dk i2 j2 = scanDown (fun x => lt dk[a]! x) dk i2 j)) (fun v10 _ => (intOf v10).toNat)
        case atStart => exact ⟨j, rfl, Nat.le_refl _, by omega, HDB.out, HS1.out, rfl⟩
        case round =>
          clear HS1 HDB c0 c1 HS
          obtain ⟨j2, rfl, hj2, hij2, ⟨c0, c1⟩, hsr, HD⟩ := hrel
          have HS := Lib.hid hsr
          clear hsr
          by_cases hle2 : i2 ≤ j2
          · omega
          · have zle2 : ¬ (i2 : Int) ≤ (j2 : Int) := by omega
            have hd : scanDown (fun x => lt dk[a]! x) dk i2 j = j2 := by rw [← HD.out]; exact scanDown_end _ _ _ _ (.inl hle2)
            have heq := partEqLoop_eq lt a i j dk
            rw [HU.out, hd] at heq
            have HEQ := Lib.hid heq
            clear heq hd
            by_cases hgt : i2 > j2
            · have zgt : (j2 : Int) < (i2 : Int) := by omega
              go_wp2_with fail
              go_ret
              have e : partitionEqual lt d a b pivot = (i2, dk) := by rw [partitionEqual, ← HO.out, HEQ.out, if_pos hgt]
              rw [e]
              exact ⟨rfl, HS.out⟩
            · omega
end Go.Proofs.Ytjjmbldgemnhbaa
