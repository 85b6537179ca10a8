/-
  sort.partition_func with a 'less' that lays blocks. (Printed by wip/tools/sqpart2.py.)
-/
import Derived.Test.YtjjmbldgemnhbaaYSQ6
namespace Go.Proofs.Ytjjmbldgemnhbaa
open Go.RowKit Go.ChangeShapes Go.WideShapes Go.Sort
set_option linter.unusedVariables false
set_option linter.unusedSimpArgs false

set_option maxHeartbeats 4000000 in
set_option maxRecDepth 1000000 in
theorem sqPartition {W0 : World} {blk n : Nat} {lt : Org → Org → Bool} {g sf : Nat} {lb sb : Array Value} (E : SE W0 blk n lt g lb sf sb) {W : World} {d : Array Org} (h : SR W0 blk n W d) (a b pivot : Nat) (hab : a < b) (hb : b ≤ n) (hp : pivot < n) :
    Calls Try.prog 65 #[lessSwap g lb sf sb, .int .i64 a, .int .i64 b, .int .i64 pivot] W fun e w' => e = .returned (.tuple #[.int .i64 (partition lt d a b pivot).1, .bool (partition lt d a b pivot).2.1]) ∧ SR W0 blk n w' (partition lt d a b pivot).2.2 := by
  have HE := Lib.hid E
  have EG := E.enter
  have hsm := E.small
  have hblk : blk < W.heap.size := Nat.lt_of_lt_of_le E.lt0 h.chg.size
  obtain ⟨W1, hW1⟩ : ∃ W1, W1 = W.alloc (.cells #[.func (.func g) #[] lb, .func (.func sf) #[] sb] 80) := ⟨_, rfl⟩
  have h1 : SR W0 blk n W1 d := by rw [hW1]; exact h.later ((Later.rfl' W).alloc _)
  have hdb : DB W.heap.size g lb sf sb W1 := by rw [hW1]; exact ⟨by simp, by simp⟩
  have hsw := HE.out.swap_at h1 (x := (a : Int)) (y := (pivot : Int)) a pivot rfl rfl (by omega) (by omega)
  have HS0 := Lib.hid (h1.swap (i := a) (j := pivot) (by omega) hp)
  have HD0 := Lib.hid (DB.swap (i := a) (j := pivot) hdb h1 hblk)
  rw [hW1] at hsw HS0 HD0
  clear E h h1 hdb hW1
  go_enter Try.func65, Try.ntmps65
  unfold lessSwap
  go_wp2_with fail
  obtain ⟨dk, hdk⟩ : ∃ dk, dk = swp d a pivot := ⟨_, rfl⟩
  rw [← hdk] at HS0
  obtain ⟨i, hi0⟩ : ∃ i, i = a + 1 := ⟨_, rfl⟩
  obtain ⟨j, hj0⟩ : ∃ j, j = b - 1 := ⟨_, rfl⟩
  rw [show (b : Int) - 1 = (j : Int) by omega]
  have hai : a < i := by omega
  have hij : i ≤ j + 2 := by omega
  have hjb : j < b := by omega
  have HI0 := Lib.hid hi0
  have HJ0 := Lib.hid hj0
  have HDK := Lib.hid hdk
  have hi1 : i ≤ a + 1 := by omega
  clear hi0 hj0 hdk hsw
  go_loopw [10] (fun v10 wr => ∃ i2 : Nat, v10 = .int .i64 i2 ∧ i ≤ i2 ∧ i2 ≤ j + 2 ∧ DB W.heap.size g lb sf sb wr ∧ SR W0 blk n wr dk ∧ Hid (scanUp (fun x => lt x dk[a]!) dk j i2 = scanUp (fun x => lt x dk[a]!) dk j i)) (fun v10 _ => j + 2 - (intOf v10).toNat)
  case atStart => exact ⟨i, by rw [HI0.out]; go_num, Nat.le_refl _, by omega, HD0.out, HS0.out, rfl⟩
  case round =>
    clear HS0 HD0
    obtain ⟨i2, rfl, hi2, hij2, ⟨c0, c1⟩, hsr, HI⟩ := hrel
    have HS := Lib.hid hsr
    clear hsr
    by_cases hle : i2 ≤ j
    · have zle : (i2 : Int) ≤ (j : Int) := by omega
      cases hv : lt dk[i2]! dk[a]! with
      | true =>
        have hl := HE.out.less_at HS.out (x := (i2 : Int)) (y := (a : Int)) i2 a rfl rfl (by omega) (by omega) hv
        go_wp2_with fail
        refine hl.mono ?_; rintro e w2 ⟨rfl, hb2⟩
        have c2 := kept_cell hb2 c0
        have c3 := kept_cell hb2 c1
        go_wp2_with fail
        refine ⟨⟨i2 + 1, by go_num, by omega, by omega, ⟨c2, c3⟩, HS.out.later hb2, ?_⟩, by simp [intOf]; omega⟩
        show _ = _
        rw [← HI.out]
        exact (scanUp_go (fun x => lt x dk[a]!) dk j i2 hle (by simp [hv])).symm
      | false =>
        have hl := HE.out.less_at HS.out (x := (i2 : Int)) (y := (a : Int)) i2 a rfl rfl (by omega) (by omega) hv
        go_wp2_with fail
        refine hl.mono ?_; rintro e w1 ⟨rfl, hb1⟩
        have c2 := kept_cell hb1 c0
        have c3 := kept_cell hb1 c1
        go_wp2_with fail
        have HU := Lib.hid (show scanUp (fun x => lt x dk[a]!) dk j i = i2 by rw [← HI.out]; exact scanUp_end _ _ _ _ (.inr (by simp [hv])))
        clear HI
        have HS1 := Lib.hid (HS.out.later hb1)
        have HDB := Lib.hid (show DB W.heap.size g lb sf sb w1 from ⟨c2, c3⟩)
        go_loopw [11] (fun v11 wr => ∃ j2 : Nat, v11 = .int .i64 j2 ∧ j2 ≤ j ∧ i2 ≤ j2 + 2 ∧ DB W.heap.size g lb sf sb wr ∧ SR W0 blk n wr dk ∧ Hid (scanDown (fun x => !lt x dk[a]!) dk i2 j2 = scanDown (fun x => !lt x dk[a]!) dk i2 j)) (fun v11 _ => (intOf v11).toNat)
        case atStart => exact ⟨j, rfl, Nat.le_refl _, by omega, HDB.out, HS1.out, rfl⟩
        case round =>
          clear HS1 HDB c2 c3 c0 c1 HS hl hb1
          obtain ⟨j2, rfl, hj2, hij2, ⟨c0, c1⟩, hsr, HD⟩ := hrel
          have HS := Lib.hid hsr
          clear hsr
          by_cases hle2 : i2 ≤ j2
          · have zle2 : (i2 : Int) ≤ (j2 : Int) := by omega
            cases hv2 : lt dk[j2]! dk[a]! with
            | false =>
              have hl := HE.out.less_at HS.out (x := (j2 : Int)) (y := (a : Int)) j2 a rfl rfl (by omega) (by omega) hv2
              go_wp2_with fail
              refine hl.mono ?_; rintro e w2 ⟨rfl, hb2⟩
              have c2 := kept_cell hb2 c0
              have c3 := kept_cell hb2 c1
              go_wp2_with fail
              refine ⟨⟨j2 - 1, by go_num, by omega, by omega, ⟨c2, c3⟩, HS.out.later hb2, ?_⟩, by simp [intOf]; omega⟩
              show _ = _
              rw [← HD.out]
              exact (scanDown_go (fun x => !lt x dk[a]!) dk i2 j2 hle2 (by omega) (by simp [hv2])).symm
            | true =>
              have HDN := Lib.hid (show scanDown (fun x => !lt x dk[a]!) dk i2 j = j2 by rw [← HD.out]; exact scanDown_end _ _ _ _ (.inr (by simp [hv2])))
              clear HD
              have hl := HE.out.less_at HS.out (x := (j2 : Int)) (y := (a : Int)) j2 a rfl rfl (by omega) (by omega) hv2
              go_wp2_with fail
              refine hl.mono ?_; rintro e w2 ⟨rfl, hb2⟩
              have hsr2 := HS.out.later hb2
              have c2 := kept_cell hb2 c0
              have c3 := kept_cell hb2 c1
              clear c0 c1 HS hl
              have c0 := c2
              have c1 := c3
              have HS := Lib.hid hsr2
              clear c2 c3 hsr2 hb2
              have hgt : ¬ i2 > j2 := by omega
              have zgt : ¬ (j2 : Int) < (i2 : Int) := by omega
              have HOUT := Lib.hid (show partition lt d a b pivot = ((partLoop lt a (i2 + 1) (j2 - 1) (swp dk i2 j2)).1, false, swp (partLoop lt a (i2 + 1) (j2 - 1) (swp dk i2 j2)).2 (partLoop lt a (i2 + 1) (j2 - 1) (swp dk i2 j2)).1 a) by
                unfold partition
                simp only []
                rw [← HDK.out, ← HI0.out, ← HJ0.out, HU.out, HDN.out, if_neg hgt])
              have hsw := HE.out.swap_at HS.out (x := (i2 : Int)) (y := (j2 : Int)) i2 j2 rfl rfl (by omega) (by omega)
              have HS9 := Lib.hid (HS.out.swap (i := i2) (j := j2) (by omega) (by omega))
              have HD9 := Lib.hid (DB.swap (i := i2) (j := j2) ⟨c0, c1⟩ HS.out hblk)
              obtain ⟨a1, ha1⟩ : ∃ a1, a1 = i2 + 1 := ⟨_, rfl⟩
              obtain ⟨b1, hb1'⟩ : ∃ b1, b1 = j2 - 1 := ⟨_, rfl⟩
              obtain ⟨d1, hd1⟩ : ∃ d1, d1 = swp dk i2 j2 := ⟨_, rfl⟩
              rw [← ha1, ← hb1', ← hd1] at HOUT
              rw [← hd1] at HS9
              have A1 := Lib.hid ha1
              have B1 := Lib.hid hb1'
              have z1 : i2 + 1 ≤ a1 := by omega
              have z2 : a1 ≤ i2 + 1 := by omega
              have z3 : b1 + 1 ≤ j2 := by omega
              have z4 : j2 ≤ b1 + 1 := by omega
              clear ha1 hb1'
              go_wp2_with fail
              go_loopw [10, 11] (fun v10 v11 wr => ∃ (i j : Nat) (dk : Array Org), v10 = .int .i64 i ∧ v11 = .int .i64 j ∧ a < i ∧ i ≤ j + 2 ∧ j < b ∧ DB W.heap.size g lb sf sb wr ∧ SR W0 blk n wr dk ∧ Hid (partLoop lt a i j dk = partLoop lt a a1 b1 d1)) (fun v10 v11 _ => (intOf v11).toNat + 1 - (intOf v10).toNat)
              case atStart => exact ⟨a1, b1, d1, by rw [A1.out]; go_num, by rw [B1.out]; go_num, by omega, by omega, by omega, HD9.out, HS9.out, rfl⟩
              case round =>
                clear HS HS9 HD9 hsw c0 c1 HU HDN hd1 zgt hgt A1 B1
                obtain ⟨i, j, dk, rfl, rfl, hai, hij, hjb, hdb, hsr, HO⟩ := hrel
                have HS0 := Lib.hid hsr
                have HD0 := Lib.hid hdb
                clear hsr hdb
                go_wp2_with fail
                go_loopw [10] (fun v10 wr => ∃ i2 : Nat, v10 = .int .i64 i2 ∧ i ≤ i2 ∧ i2 ≤ j + 2 ∧ DB W.heap.size g lb sf sb wr ∧ SR W0 blk n wr dk ∧ Hid (scanUp (fun x => lt x dk[a]!) dk j i2 = scanUp (fun x => lt x dk[a]!) dk j i)) (fun v10 _ => j + 2 - (intOf v10).toNat)
                case atStart => exact ⟨i, rfl, Nat.le_refl _, by omega, HD0.out, HS0.out, rfl⟩
                case round =>
                  clear HS0 HD0
                  obtain ⟨i2, rfl, hi2, hij2, ⟨c0, c1⟩, hsr, HI⟩ := hrel
                  have HS := Lib.hid hsr
                  clear hsr
                  by_cases hle : i2 ≤ j
                  · have zle : (i2 : Int) ≤ (j : Int) := by omega
                    cases hv : lt dk[i2]! dk[a]! with
                    | true =>
                      have hl := HE.out.less_at HS.out (x := (i2 : Int)) (y := (a : Int)) i2 a rfl rfl (by omega) (by omega) hv
                      go_wp2_with fail
                      refine hl.mono ?_; rintro e w2 ⟨rfl, hb2⟩
                      have c2 := kept_cell hb2 c0
                      have c3 := kept_cell hb2 c1
                      go_wp2_with fail
                      refine ⟨⟨i2 + 1, by go_num, by omega, by omega, ⟨c2, c3⟩, HS.out.later hb2, ?_⟩, by simp [intOf]; omega⟩
                      show _ = _
                      rw [← HI.out]
                      exact (scanUp_go (fun x => lt x dk[a]!) dk j i2 hle (by simp [hv])).symm
                    | false =>
                      have hl := HE.out.less_at HS.out (x := (i2 : Int)) (y := (a : Int)) i2 a rfl rfl (by omega) (by omega) hv
                      go_wp2_with fail
                      refine hl.mono ?_; rintro e w1 ⟨rfl, hb1⟩
                      have c2 := kept_cell hb1 c0
                      have c3 := kept_cell hb1 c1
                      go_wp2_with fail
                      have HU := Lib.hid (show scanUp (fun x => lt x dk[a]!) dk j i = i2 by rw [← HI.out]; exact scanUp_end _ _ _ _ (.inr (by simp [hv])))
                      clear HI
                      have HS1 := Lib.hid (HS.out.later hb1)
                      have HDB := Lib.hid (show DB W.heap.size g lb sf sb w1 from ⟨c2, c3⟩)
                      go_loopw [11] (fun v11 wr => ∃ j2 : Nat, v11 = .int .i64 j2 ∧ j2 ≤ j ∧ i2 ≤ j2 + 2 ∧ DB W.heap.size g lb sf sb wr ∧ SR W0 blk n wr dk ∧ Hid (scanDown (fun x => !lt x dk[a]!) dk i2 j2 = scanDown (fun x => !lt x dk[a]!) dk i2 j)) (fun v11 _ => (intOf v11).toNat)
                      case atStart => exact ⟨j, rfl, Nat.le_refl _, by omega, HDB.out, HS1.out, rfl⟩
                      case round =>
                        clear HS1 HDB c2 c3 c0 c1 HS hl hb1
                        obtain ⟨j2, rfl, hj2, hij2, ⟨c0, c1⟩, hsr, HD⟩ := hrel
                        have HS := Lib.hid hsr
                        clear hsr
                        by_cases hle2 : i2 ≤ j2
                        · have zle2 : (i2 : Int) ≤ (j2 : Int) := by omega
                          cases hv2 : lt dk[j2]! dk[a]! with
                          | false =>
                            have hl := HE.out.less_at HS.out (x := (j2 : Int)) (y := (a : Int)) j2 a rfl rfl (by omega) (by omega) hv2
                            go_wp2_with fail
                            refine hl.mono ?_; rintro e w2 ⟨rfl, hb2⟩
                            have c2 := kept_cell hb2 c0
                            have c3 := kept_cell hb2 c1
                            go_wp2_with fail
                            refine ⟨⟨j2 - 1, by go_num, by omega, by omega, ⟨c2, c3⟩, HS.out.later hb2, ?_⟩, by simp [intOf]; omega⟩
                            show _ = _
                            rw [← HD.out]
                            exact (scanDown_go (fun x => !lt x dk[a]!) dk i2 j2 hle2 (by omega) (by simp [hv2])).symm
                          | true =>
                            have HDN := Lib.hid (show scanDown (fun x => !lt x dk[a]!) dk i2 j = j2 by rw [← HD.out]; exact scanDown_end _ _ _ _ (.inr (by simp [hv2])))
                            clear HD
                            have hl := HE.out.less_at HS.out (x := (j2 : Int)) (y := (a : Int)) j2 a rfl rfl (by omega) (by omega) hv2
                            go_wp2_with fail
                            refine hl.mono ?_; rintro e w2 ⟨rfl, hb2⟩
                            have hsr2 := HS.out.later hb2
                            have c2 := kept_cell hb2 c0
                            have c3 := kept_cell hb2 c1
                            clear c0 c1 HS hl
                            have c0 := c2
                            have c1 := c3
                            have HS := Lib.hid hsr2
                            clear c2 c3 hsr2 hb2
                            have hgt : ¬ i2 > j2 := by omega
                            have HEQ := Lib.hid (partLoop_eq lt a i j dk)
                            have zgt : ¬ (j2 : Int) < (i2 : Int) := by omega
                            have hsw := HE.out.swap_at HS.out (x := (i2 : Int)) (y := (j2 : Int)) i2 j2 rfl rfl (by omega) (by omega)
                            go_wp2_with fail
                            refine ⟨⟨i2 + 1, j2 - 1, swp dk i2 j2, by go_num, by go_num, by omega, by omega, by omega, DB.swap ⟨c0, c1⟩ HS.out hblk, HS.out.swap (by omega) (by omega), ?_⟩, by simp [intOf]; omega⟩
                            show _ = _
                            rw [← HO.out, HEQ.out, HU.out, HDN.out, if_neg hgt]
                        · have zle2 : ¬ (i2 : Int) ≤ (j2 : Int) := by omega
                          have hgt : i2 > j2 := by omega
                          have HDN := Lib.hid (show scanDown (fun x => !lt x dk[a]!) dk i2 j = j2 by rw [← HD.out]; exact scanDown_end _ _ _ _ (.inl hle2))
                          clear HD
                          have HEQ := Lib.hid (partLoop_eq lt a i j dk)
                          have zgt : (j2 : Int) < (i2 : Int) := by omega
                          have hsw := HE.out.swap_at HS.out (x := (j2 : Int)) (y := (a : Int)) j2 a rfl rfl (by omega) (by omega)
                          go_wp2_with fail
                          go_ret2
                          have e1 : partLoop lt a i j dk = (j2, dk) := by rw [HEQ.out, HU.out, HDN.out, if_pos hgt]
                          rw [HOUT.out, ← HO.out, e1]
                          exact ⟨rfl, HS.out.swap (by omega) (by omega)⟩
                  · have zle : ¬ (i2 : Int) ≤ (j : Int) := by omega
                    go_wp2_with fail
                    have HU := Lib.hid (show scanUp (fun x => lt x dk[a]!) dk j i = i2 by rw [← HI.out]; exact scanUp_end _ _ _ _ (.inl hle))
                    clear HI
                    have HS1 := Lib.hid (HS.out)
                    have HDB := Lib.hid (show DB W.heap.size g lb sf sb _ from ⟨c0, c1⟩)
                    go_loopw [11] (fun v11 wr => ∃ j2 : Nat, v11 = .int .i64 j2 ∧ j2 ≤ j ∧ i2 ≤ j2 + 2 ∧ DB W.heap.size g lb sf sb wr ∧ SR W0 blk n wr dk ∧ Hid (scanDown (fun x => !lt x dk[a]!) dk i2 j2 = scanDown (fun x => !lt x dk[a]!) dk i2 j)) (fun v11 _ => (intOf v11).toNat)
                    case atStart => exact ⟨j, rfl, Nat.le_refl _, by omega, HDB.out, HS1.out, rfl⟩
                    case round =>
                      clear HS1 HDB c0 c1 HS
                      obtain ⟨j2, rfl, hj2, hij2, ⟨c0, c1⟩, hsr, HD⟩ := hrel
                      have HS := Lib.hid hsr
                      clear hsr
                      by_cases hle2 : i2 ≤ j2
                      · omega
                      · have zle2 : ¬ (i2 : Int) ≤ (j2 : Int) := by omega
                        have hgt : i2 > j2 := by omega
                        have HDN := Lib.hid (show scanDown (fun x => !lt x dk[a]!) dk i2 j = j2 by rw [← HD.out]; exact scanDown_end _ _ _ _ (.inl hle2))
                        clear HD
                        have HEQ := Lib.hid (partLoop_eq lt a i j dk)
                        have zgt : (j2 : Int) < (i2 : Int) := by omega
                        have hsw := HE.out.swap_at HS.out (x := (j2 : Int)) (y := (a : Int)) j2 a rfl rfl (by omega) (by omega)
                        go_wp2_with fail
                        go_ret2
                        have e1 : partLoop lt a i j dk = (j2, dk) := by rw [HEQ.out, HU.out, HDN.out, if_pos hgt]
                        rw [HOUT.out, ← HO.out, e1]
                        exact ⟨rfl, HS.out.swap (by omega) (by omega)⟩
          · have zle2 : ¬ (i2 : Int) ≤ (j2 : Int) := by omega
            have hgt : i2 > j2 := by omega
            have HDN := Lib.hid (show scanDown (fun x => !lt x dk[a]!) dk i2 j = j2 by rw [← HD.out]; exact scanDown_end _ _ _ _ (.inl hle2))
            clear HD
            have zgt : (j2 : Int) < (i2 : Int) := by omega
            have hsw := HE.out.swap_at HS.out (x := (j2 : Int)) (y := (a : Int)) j2 a rfl rfl (by omega) (by omega)
            have HOUT := Lib.hid (show partition lt d a b pivot = (j2, true, swp dk j2 a) by
              unfold partition
              simp only []
              rw [← HDK.out, ← HI0.out, ← HJ0.out, HU.out, HDN.out, if_pos hgt])
            go_wp2_with fail
            go_ret2
            rw [HOUT.out]
            exact ⟨rfl, HS.out.swap (by omega) (by omega)⟩
    · have zle : ¬ (i2 : Int) ≤ (j : Int) := by omega
      go_wp2_with fail
      have HU := Lib.hid (show scanUp (fun x => lt x dk[a]!) dk j i = i2 by rw [← HI.out]; exact scanUp_end _ _ _ _ (.inl hle))
      clear HI
      have HS1 := Lib.hid (HS.out)
      have HDB := Lib.hid (show DB W.heap.size g lb sf sb _ from ⟨c0, c1⟩)
      go_loopw [11] (fun v11 wr => ∃ j2 : Nat, v11 = .int .i64 j2 ∧ j2 ≤ j ∧ i2 ≤ j2 + 2 ∧ DB W.heap.size g lb sf sb wr ∧ SR W0 blk n wr dk ∧ Hid (scanDown (fun x => !lt x dk[a]!) dk i2 j2 = scanDown (fun x => !lt x dk[a]!) dk i2 j)) (fun v11 _ => (intOf v11).toNat)
      case atStart => exact ⟨j, rfl, Nat.le_refl _, by omega, HDB.out, HS1.out, rfl⟩
      case round =>
        clear HS1 HDB c0 c1 HS
        obtain ⟨j2, rfl, hj2, hij2, ⟨c0, c1⟩, hsr, HD⟩ := hrel
        have HS := Lib.hid hsr
        clear hsr
        by_cases hle2 : i2 ≤ j2
        · omega
        · have zle2 : ¬ (i2 : Int) ≤ (j2 : Int) := by omega
          have hgt : i2 > j2 := by omega
          have HDN := Lib.hid (show scanDown (fun x => !lt x dk[a]!) dk i2 j = j2 by rw [← HD.out]; exact scanDown_end _ _ _ _ (.inl hle2))
          clear HD
          have zgt : (j2 : Int) < (i2 : Int) := by omega
          have hsw := HE.out.swap_at HS.out (x := (j2 : Int)) (y := (a : Int)) j2 a rfl rfl (by omega) (by omega)
          have HOUT := Lib.hid (show partition lt d a b pivot = (j2, true, swp dk j2 a) by
            unfold partition
            simp only []
            rw [← HDK.out, ← HI0.out, ← HJ0.out, HU.out, HDN.out, if_pos hgt])
          go_wp2_with fail
          go_ret2
          rw [HOUT.out]
          exact ⟨rfl, HS.out.swap (by omega) (by omega)⟩
end Go.Proofs.Ytjjmbldgemnhbaa
