/-
  sort.pdqsort_func with a 'less' that lays blocks. (After the kit's walk of the same function with a 'less' that lays none.)
-/
import Derived.Test.YtjjmbldgemnhbaaYSQ5
import Derived.Test.YtjjmbldgemnhbaaYSQ7
import Derived.Test.YtjjmbldgemnhbaaYSQ6
import Derived.Test.YtjjmbldgemnhbaaYSQ8
import Derived.Test.YtjjmbldgemnhbaaYSQ9
import Derived.Sort.Walk13
import Derived.Sort.AssemblyPlain
namespace Go.Proofs.Ytjjmbldgemnhbaa
open Go.RowKit Go.ChangeShapes Go.WideShapes Go.Sort
set_option linter.unusedVariables false
set_option linter.unusedSimpArgs false

set_option maxHeartbeats 12800000 in
set_option maxRecDepth 1000000 in
theorem sqPdqAll {blk n : Nat} {lt : Org → Org → Bool} (hO : SWO lt) {g sf : Nat} {lb sb : Array Value} : ∀ (N : Nat) (W0 : World), SE W0 blk n lt g lb sf sb → ∀ (W : World) (d : Array Org), SR W0 blk n W d → ∀ (a b limit : Nat), b - a < N → a ≤ b → b ≤ n → limit < 4611686018427387904 → Go.Sort.Below lt a b d →
    Calls Try.prog 41 #[lessSwap g lb sf sb, .int .i64 a, .int .i64 b, .int .i64 limit] W fun e w' => e = .returned (.tuple #[]) ∧ SR W0 blk n w' (pdq lt d a b limit true true) := by
  intro N
  induction N with
  | zero => intro _ _ _ _ _ _ _ _ h; exact absurd h (Nat.not_lt_zero _)
  | succ N ih =>
    intro W0 E W d h a b limit hN hab hb hlimit hBel0
    have EG := E.enter
    have HE := Lib.hid E
    have HH := Lib.hid h
    have hsm := E.small
    have hblk : blk < W.heap.size := Nat.lt_of_lt_of_le E.lt0 h.chg.size
    clear E h
    have HBel0 := Lib.hid hBel0
    clear hBel0
    have CI := fun (w1 : World) (d1 : Array Org) (h1 : SR W0 blk n w1 d1) (a' b' : Nat) (x1 : a' ≤ b') (x2 : b' ≤ n) => sqInsertion (HE.out.rebase h1) h1.refl a' b' x1 x2
    have CH := fun (w1 : World) (d1 : Array Org) (h1 : SR W0 blk n w1 d1) (a' b' : Nat) (x1 : a' < b') (x2 : b' ≤ n) => sqHeapSort (HE.out.rebase h1) h1.refl a' b' x1 x2
    have CB := fun (w1 : World) (d1 : Array Org) (h1 : SR W0 blk n w1 d1) (a' b' : Nat) (x1 : a' ≤ b') (x2 : b' ≤ n) => sqBreak (HE.out.rebase h1) h1.refl a' b' x1 x2
    have CC := fun (w1 : World) (d1 : Array Org) (h1 : SR W0 blk n w1 d1) (a' b' : Nat) (x1 : a' < b') (x2 : b' ≤ n) => sqChoose (HE.out.rebase h1) h1.refl a' b' x1 x2
    have CR := fun (w1 : World) (d1 : Array Org) (h1 : SR W0 blk n w1 d1) (a' b' : Nat) (x1 : a' < b') (x2 : b' ≤ n) => sqReverse (HE.out.rebase h1) h1.refl a' b' x1 x2
    have CP := fun (w1 : World) (d1 : Array Org) (h1 : SR W0 blk n w1 d1) (a' b' : Nat) (x1 : a' < b') (x2 : b' ≤ n) => sqPartial (HE.out.rebase h1) h1.refl a' b' x1 x2
    have CE := fun (w1 : World) (d1 : Array Org) (h1 : SR W0 blk n w1 d1) (a' b' p' : Nat) (x1 : a' < b') (x2 : b' ≤ n) (x3 : p' < n) => sqPartEq (HE.out.rebase h1) h1.refl a' b' p' x1 x2 x3
    have CQ := fun (w1 : World) (d1 : Array Org) (h1 : SR W0 blk n w1 d1) (a' b' p' : Nat) (x1 : a' < b') (x2 : b' ≤ n) (x3 : p' < n) => sqPartition (HE.out.rebase h1) h1.refl a' b' p' x1 x2 x3
    have CS := fun (w1 : World) (d1 : Array Org) (h1 : SR W0 blk n w1 d1) => ih w1 (HE.out.rebase h1) w1 d1 h1.refl
    unfold lessSwap at CI CH CB CC CR CP CE CQ CS
    have CI := Lib.hid CI; have CH := Lib.hid CH; have CB := Lib.hid CB; have CC := Lib.hid CC; have CR := Lib.hid CR; have CP := Lib.hid CP; have CE := Lib.hid CE; have CQ := Lib.hid CQ; have CS := Lib.hid CS
    clear ih
    go_enter Try.func41, Try.ntmps41
    unfold lessSwap
    go_wp2_with fail
    go_loopg [1, 2, 3, 8, 9] (b - a) (fun kx s1 s2 s3 s8 s9 wr => ∃ (a' b' lim : Nat) (wb wp : Bool) (dk : Array Org), s1 = .int .i64 a' ∧ s2 = .int .i64 b' ∧ s3 = .int .i64 lim ∧ s8 = .bool wb ∧ s9 = .bool wp ∧
      a' ≤ b' ∧ b' ≤ n ∧ b' - a' ≤ kx ∧ kx ≤ b - a ∧ lim ≤ limit ∧ Hid (Go.Sort.Below lt a' b' dk) ∧ SR W0 blk n wr dk ∧ DB W.heap.size g lb sf sb wr ∧ Hid (pdq lt dk a' b' lim wb wp = pdq lt d a b limit true true))
    case atStart => exact ⟨a, b, limit, true, true, d, rfl, rfl, rfl, rfl, rfl, hab, hb, Nat.le_refl _, Nat.le_refl _, Nat.le_refl _, HBel0.out, HH.out.later ((Later.rfl' _).alloc _), ⟨by simp, by simp⟩, rfl⟩
    case round =>
      obtain ⟨a', b', lim, wb, wp, dk, rfl, rfl, rfl, rfl, rfl, hab', hb', hkx, hkN, hlim, HBel, hsr, ⟨x0, x1⟩, A⟩ := hrel
      have HS := Lib.hid hsr
      have hds : dk.size = n := hsr.size
      have HDS := Lib.hid hds
      clear hsr hds
      by_cases h12 : b' - a' ≤ 12
      · have h12z : (b' : Int) - (a' : Int) ≤ 12 := by omega
        go_wp2_with fail
        refine (CI.out _ _ HS.out a' b' hab' hb').mono ?_; rintro e w1 ⟨rfl, hw1⟩
        have HW := Lib.hid hw1
        clear hw1
        go_wp2_with fail
        refine bodyPost_ret (results_none rfl _ _ _) rfl ?_
        refine ⟨rfl, ?_⟩
        have e := A.out
        rw [pdq_small h12] at e
        rw [← e]
        exact HS.out.trans HW.out
      · have h12z : ¬ ((b' : Int) - (a' : Int) ≤ 12) := by omega
        by_cases hl0 : lim = 0
        · have hl0z : (lim : Int) = 0 := by omega
          go_wp2_with fail
          refine (CH.out _ _ HS.out a' b' (by omega) hb').mono ?_; rintro e w1 ⟨rfl, hw1⟩
          have HW := Lib.hid hw1
          clear hw1
          go_wp2_with fail
          refine bodyPost_ret (results_none rfl _ _ _) rfl ?_
          refine ⟨rfl, ?_⟩
          have e := A.out
          rw [pdq_heap h12 hl0] at e
          rw [← e]
          exact HS.out.trans HW.out
        · have hl0z : ¬ ((lim : Int) = 0) := by omega
          obtain ⟨s1, B1, hc1, s2, B2, hpv, s3, B3⟩ := rd_facts (lt := lt) (limit := lim) (wb := wb) (wp := wp) hO partialInsertionSort_holds reverseRange_holds (show a' < b' by omega) (show b' ≤ dk.size by rw [HDS.out]; exact hb') HBel.out
          have HB3 := Lib.hid B3
          have HS1 := Lib.hid s1; have HS2 := Lib.hid s2; have HS3 := Lib.hid s3
          clear B1 B2 B3 s1 s2 s3 HBel
          go_upto_if 35 with fail
          go_cut [3] from 19 (fun s3 wc => s3 = .int .i64 (rd lt dk a' b' lim wb wp).lim ∧ SR W0 blk n wc (rd lt dk a' b' lim wb wp).d1 ∧ DB W.heap.size g lb sf sb wc)
          case first =>
            cases wb
            · have HDB := Lib.hid (show DB W.heap.size g lb sf sb _ from ⟨x0, x1⟩)
              go_wp2_with fail
              refine (CB.out _ _ HS.out a' b' hab' hb').mono ?_; rintro e w1 ⟨rfl, hw1⟩
              have HW := Lib.hid hw1
              clear hw1
              go_wp2_with fail
              go_meet
              case rel =>
                refine ⟨?_, HS.out.trans HW.out, HDB.out.kept HW.out hblk⟩
                show Value.int .i64 ((lim : Int) - 1) = Value.int .i64 ((lim - 1 : Nat) : Int)
                congr 1
                omega
            · go_wp2_with fail
              go_meet
              case rel => exact ⟨rfl, HS.out, ⟨x0, x1⟩⟩
          case rest =>
            obtain ⟨rfl, hsr1, hdb1⟩ := hcut
            clear x0 x1 HS
            have HS := Lib.hid hsr1
            have HDB := Lib.hid hdb1
            clear hsr1
            obtain ⟨y0, y1⟩ := hdb1
            have hc17 := CC.out _ _ HS.out a' b' (by omega) hb'
            go_upto_if 50 with fail
            refine (show Calls _ _ _ _ fun e w' => e = .returned (.tuple #[.int .i64 (rd lt dk a' b' lim wb wp).c.1, .int .i64 (hintCode (rd lt dk a' b' lim wb wp).c.2)]) ∧ SR _ blk n w' (rd lt dk a' b' lim wb wp).d1 from hc17).mono ?_; rintro e w2 ⟨rfl, hw2⟩
            have HW := Lib.hid hw2
            have hsr2 := HS.out.trans hw2
            have hdb2 := HDB.out.kept hw2 hblk
            clear hw2 HS HDB y0 y1 hc17
            have HS := Lib.hid hsr2
            have HDB := Lib.hid hdb2
            clear hsr2 HW
            obtain ⟨y0, y1⟩ := hdb2
            go_upto_if 50 with fail
            go_cut [11, 12] from 19 (fun s11 s12 wc => s11 = .int .i64 (rd lt dk a' b' lim wb wp).pivot ∧ s12 = .int .i64 (hintCode (rd lt dk a' b' lim wb wp).hint) ∧ SR W0 blk n wc (rd lt dk a' b' lim wb wp).d2 ∧ DB W.heap.size g lb sf sb wc)
            case first =>
              by_cases hh : (rd lt dk a' b' lim wb wp).c.2 = .decreasing
              · have hcode : hintCode (rd lt dk a' b' lim wb wp).c.2 = 2 := by rw [hh]; rfl
                obtain ⟨e2, epv, eht⟩ := rd_dec hh
                have X2 := Lib.hid e2; have XP := Lib.hid epv; have XH := Lib.hid eht
                clear e2 epv eht hh
                go_wp2_with fail
                refine (CR.out _ _ HS.out a' b' (by omega) hb').mono ?_; rintro e w3 ⟨rfl, hw3⟩
                have HW := Lib.hid hw3
                clear hw3
                go_wp2_with fail
                go_meet
                case rel =>
                  refine ⟨?_, by rw [XH.out]; rfl, by rw [X2.out]; exact HS.out.trans HW.out, HDB.out.kept HW.out hblk⟩
                  rw [XP.out]
                  congr 1
                  omega
              · have hcode : ¬ (hintCode (rd lt dk a' b' lim wb wp).c.2 = 2) := fun h => hh (hintCode_two h)
                obtain ⟨e2, epv, eht⟩ := rd_not hh
                have X2 := Lib.hid e2; have XP := Lib.hid epv; have XH := Lib.hid eht
                clear e2 epv eht hh
                go_wp2_with fail
                go_meet
                case rel => exact ⟨by rw [XP.out], by rw [XH.out], by rw [X2.out]; exact HS.out, HDB.out⟩
            case rest =>
              obtain ⟨rfl, rfl, hsr3, hdb3⟩ := hcut
              clear y0 y1 HS HDB
              have HS := Lib.hid hsr3
              have HDB := Lib.hid hdb3
              clear hsr3
              obtain ⟨y0, y1⟩ := hdb3
              go_upto_region 16 with fail
              go_cut [12, 68] from 19 (fun s12 s68 wx => s12 = .int .i64 (hintCode (rd lt dk a' b' lim wb wp).hint) ∧ s68 = .bool (wb && wp && decide ((rd lt dk a' b' lim wb wp).hint = .increasing)) ∧ wx = wc)
              case first =>
                cases wb <;> cases wp <;> cases hh3 : (rd lt dk a' b' lim _ _).hint <;>
                  (have hcode3 := congrArg hintCode hh3
                   simp only [hintCode] at hcode3
                   go_wp2_with fail
                   go_meet
                   exact ⟨by simp [hh3, hintCode], by simp [hh3, hintCode], rfl⟩)
              case rest =>
                obtain ⟨rfl, rfl, rfl⟩ := hcut
                go_upto_if 68 with fail
                go_cut [] from 19 (fun wx => (rd lt dk a' b' lim wb wp).pi.2 = false ∧ SR W0 blk n wx (rd lt dk a' b' lim wb wp).pi.1 ∧ DB W.heap.size g lb sf sb wx)
                case first =>
                  cases h68 : (wb && wp && decide ((rd lt dk a' b' lim wb wp).hint = .increasing))
                  · have epi := rd_pi_no h68
                    have XE := Lib.hid epi
                    clear epi
                    go_wp2_with fail
                    go_meet
                    case rel => exact ⟨by rw [XE.out], by rw [XE.out]; exact HS.out, HDB.out⟩
                  · have epi := rd_pi_yes h68
                    have XE := Lib.hid epi
                    have hc19 := CP.out _ _ HS.out a' b' (by omega) hb'
                    rw [← epi] at hc19
                    clear epi
                    go_wp2_with fail
                    refine hc19.mono ?_; rintro e w4 ⟨rfl, hw4⟩
                    have HW := Lib.hid hw4
                    clear hw4 hc19
                    cases hp2 : (rd lt dk a' b' lim wb wp).pi.2
                    · go_wp2_with fail
                      go_meet
                      case rel => exact ⟨hp2, HS.out.trans HW.out, HDB.out.kept HW.out hblk⟩
                    · go_wp2_with fail
                      refine bodyPost_ret (results_none rfl _ _ _) rfl ?_
                      refine ⟨rfl, ?_⟩
                      have e := A.out
                      rw [pdq_done h12 hl0 hp2] at e
                      rw [← e]
                      exact HS.out.trans HW.out
                case rest =>
                  obtain ⟨hp2, hsr5, hdb5⟩ := hcut
                  clear y0 y1 HS HDB
                  have HP2 := Lib.hid hp2
                  have HS := Lib.hid hsr5
                  have HDB := Lib.hid hdb5
                  clear hsr5 hp2
                  obtain ⟨y0, y1⟩ := hdb5
                  go_upto_region 18 with fail
                  go_cut [83] from 19 (fun s83 wx => s83 = .bool (decide (a' > 0) && !lt (rd lt dk a' b' lim wb wp).pi.1[a' - 1]! (rd lt dk a' b' lim wb wp).pi.1[(rd lt dk a' b' lim wb wp).pivot]!) ∧ SR W0 blk n wx (rd lt dk a' b' lim wb wp).pi.1 ∧ DB W.heap.size g lb sf sb wx)
                  case first =>
                    rcases Nat.eq_zero_or_pos a' with ha0 | ha0
                    · have ha0z : decide ((a' : Int) > 0) = false := decide_eq_false (by omega)
                      go_wp2_with fail
                      go_meet
                      case rel => exact ⟨by simp [ha0], HS.out, HDB.out⟩
                    · have ha0z : (a' : Int) > 0 := by omega
                      cases hlv : lt (rd lt dk a' b' lim wb wp).pi.1[a' - 1]! (rd lt dk a' b' lim wb wp).pi.1[(rd lt dk a' b' lim wb wp).pivot]! <;>
                        (have hl := HE.out.less_at HS.out (x := (a' : Int) - 1) (y := ((rd lt dk a' b' lim wb wp).pivot : Int)) (a' - 1) (rd lt dk a' b' lim wb wp).pivot (by omega) rfl (by omega) (by omega) hlv
                         go_wp2_with fail
                         refine hl.mono ?_; rintro e w' ⟨rfl, hb2⟩
                         have HL := Lib.hid hb2
                         clear hb2
                         go_wp2_with fail
                         go_meet
                         exact ⟨by simp [ha0, hlv], HS.out.later HL.out, HDB.out.later HL.out⟩)
                  case rest =>
                    obtain ⟨rfl, hsr6, hdb6⟩ := hcut
                    clear y0 y1 HS HDB
                    have HS := Lib.hid hsr6
                    have HDB := Lib.hid hdb6
                    clear hsr6
                    obtain ⟨y0, y1⟩ := hdb6
                    cases h87 : (decide (a' > 0) && !lt (rd lt dk a' b' lim wb wp).pi.1[a' - 1]! (rd lt dk a' b' lim wb wp).pi.1[(rd lt dk a' b' lim wb wp).pivot]!)
                    · obtain ⟨mid, ap, d4, hx⟩ : ∃ mid ap d4, partition lt (rd lt dk a' b' lim wb wp).pi.1 a' b' (rd lt dk a' b' lim wb wp).pivot = (mid, ap, d4) := ⟨(partition lt (rd lt dk a' b' lim wb wp).pi.1 a' b' (rd lt dk a' b' lim wb wp).pivot).1, (partition lt (rd lt dk a' b' lim wb wp).pi.1 a' b' (rd lt dk a' b' lim wb wp).pivot).2.1, (partition lt (rd lt dk a' b' lim wb wp).pi.1 a' b' (rd lt dk a' b' lim wb wp).pivot).2.2, rfl⟩
                      obtain ⟨r1, r2, r3, r4, r5, r6, r7⟩ := round_part hO (partition_holds lt) hpv.1 hpv.2 (show b' ≤ (rd lt dk a' b' lim wb wp).pi.1.size by rw [HS3.out, HDS.out]; exact hb') HB3.out hx
                      have hc22 := CQ.out _ _ HS.out a' b' (rd lt dk a' b' lim wb wp).pivot (by omega) hb' (by omega)
                      rw [hx] at hc22
                      have X := Lib.hid hx
                      have R3 := Lib.hid r3; have R4 := Lib.hid r4; have R5 := Lib.hid r5; have R6 := Lib.hid r6; have R7 := Lib.hid r7
                      clear hx r3 r4 r5 r6 r7
                      go_upto_if 109 with fail
                      refine hc22.mono ?_; rintro e w7 ⟨rfl, hw7⟩
                      have hsr7 := HS.out.trans hw7
                      have hdb7 := HDB.out.kept hw7 hblk
                      clear hw7 HS HDB y0 y1 hc22
                      have HS := Lib.hid hsr7
                      have HDB := Lib.hid hdb7
                      clear hsr7
                      obtain ⟨y0, y1⟩ := hdb7
                      have hs4 : d4.size = n := HS.out.size
                      have HS4 := Lib.hid hs4
                      clear hs4
                      by_cases h4 : mid - a' < b' - mid
                      · have h4z : (mid : Int) - (a' : Int) < (b' : Int) - (mid : Int) := by omega
                        have hih := CS.out _ _ HS.out a' mid (rd lt dk a' b' lim wb wp).lim (by omega) (by omega) (by omega) (Nat.lt_of_le_of_lt (Nat.le_trans rd_lim_le hlim) hlimit) R4.out
                        obtain ⟨pL, sL⟩ := pdq_sorts lt hO d4 a' mid (rd lt dk a' b' lim wb wp).lim true true (by omega) (by rw [HS4.out]; omega) R4.out
                        have PL := Lib.hid pL; have SL := Lib.hid sL
                        clear pL sL
                        go_wp2_with fail
                        refine hih.mono ?_; rintro e w8 ⟨rfl, hw8⟩
                        have HW := Lib.hid hw8
                        clear hw8 hih
                        go_wp2_with fail
                        go_roundg (b' - (mid + 1))
                        case measure => omega
                        case rel =>
                          have hx := X.out
                          refine ⟨mid + 1, b', (rd lt dk a' b' lim wb wp).lim, decide (mid - a' ≥ (b' - a') / 8), ap, pdq lt d4 a' mid (rd lt dk a' b' lim wb wp).lim true true, by simp, rfl, rfl, ?_, rfl, by omega, hb', Nat.le_refl _, by omega, Nat.le_trans rd_lim_le hlim, (R6.out _ PL.out SL.out).1, HS.out.trans HW.out, HDB.out.kept HW.out hblk, ?_⟩
                          · exact congrArg Value.bool (eighth (by omega) (by omega))
                          · show _ = _
                            have e := A.out
                            rw [pdq_left h12 hl0 HP2.out h87 (by rw [hx]; exact ⟨r1, r2⟩) (by rw [hx]; exact h4), hx] at e
                            exact e
                      · have h4z : ¬ ((mid : Int) - (a' : Int) < (b' : Int) - (mid : Int)) := by omega
                        have hih := CS.out _ _ HS.out (mid + 1) b' (rd lt dk a' b' lim wb wp).lim (by omega) (by omega) (by omega) (Nat.lt_of_le_of_lt (Nat.le_trans rd_lim_le hlim) hlimit) R5.out
                        rw [show ((mid + 1 : Nat) : Int) = (mid : Int) + 1 by omega] at hih
                        obtain ⟨pL, sL⟩ := pdq_sorts lt hO d4 (mid + 1) b' (rd lt dk a' b' lim wb wp).lim true true (by omega) (by rw [HS4.out]; omega) R5.out
                        have PL := Lib.hid pL; have SL := Lib.hid sL
                        clear pL sL
                        go_wp2_with fail
                        refine hih.mono ?_; rintro e w8 ⟨rfl, hw8⟩
                        have HW := Lib.hid hw8
                        clear hw8 hih
                        go_wp2_with fail
                        go_roundg (mid - a')
                        case measure => omega
                        case rel =>
                          have hx := X.out
                          refine ⟨a', mid, (rd lt dk a' b' lim wb wp).lim, decide (b' - mid ≥ (b' - a') / 8), ap, pdq lt d4 (mid + 1) b' (rd lt dk a' b' lim wb wp).lim true true, rfl, rfl, rfl, ?_, rfl, by omega, by omega, Nat.le_refl _, by omega, Nat.le_trans rd_lim_le hlim, (R7.out _ PL.out SL.out).1, HS.out.trans HW.out, HDB.out.kept HW.out hblk, ?_⟩
                          · exact congrArg Value.bool (eighth (by omega) (by omega))
                          · show _ = _
                            have e := A.out
                            rw [pdq_right h12 hl0 HP2.out h87 (by rw [hx]; exact ⟨r1, r2⟩) (by rw [hx]; exact h4), hx] at e
                            exact e
                    · have h87' := h87
                      simp only [Bool.and_eq_true, decide_eq_true_eq, Bool.not_eq_true'] at h87'
                      obtain ⟨mid, d4, hx⟩ : ∃ mid d4, partitionEqual lt (rd lt dk a' b' lim wb wp).pi.1 a' b' (rd lt dk a' b' lim wb wp).pivot = (mid, d4) := ⟨(partitionEqual lt (rd lt dk a' b' lim wb wp).pi.1 a' b' (rd lt dk a' b' lim wb wp).pivot).1, (partitionEqual lt (rd lt dk a' b' lim wb wp).pi.1 a' b' (rd lt dk a' b' lim wb wp).pivot).2, rfl⟩
                      obtain ⟨r1, r2, r3, r4, _⟩ := round_eq hO (partitionEqual_holds lt) h87'.1 hpv.1 hpv.2 (show b' ≤ (rd lt dk a' b' lim wb wp).pi.1.size by rw [HS3.out, HDS.out]; exact hb') HB3.out h87'.2 hx
                      have hc21 := CE.out _ _ HS.out a' b' (rd lt dk a' b' lim wb wp).pivot (by omega) hb' (by omega)
                      rw [hx] at hc21
                      have X := Lib.hid hx
                      have R4 := Lib.hid r4
                      clear hx r3 r4 h87'
                      go_wp2_with fail
                      refine hc21.mono ?_; rintro e w7 ⟨rfl, hw7⟩
                      have HW := Lib.hid hw7
                      clear hw7 hc21
                      go_wp2_with fail
                      go_roundg (b' - mid)
                      case measure => omega
                      case rel =>
                        have hx := X.out
                        refine ⟨mid, b', (rd lt dk a' b' lim wb wp).lim, wb, wp, d4, rfl, rfl, rfl, rfl, rfl, r2, hb', Nat.le_refl _, by omega, Nat.le_trans rd_lim_le hlim, R4.out, HS.out.trans HW.out, HDB.out.kept HW.out hblk, ?_⟩
                        show _ = _
                        have e := A.out
                        rw [pdq_eq h12 hl0 HP2.out h87 (by rw [hx]; exact ⟨r1, r2⟩), hx] at e
                        exact e
end Go.Proofs.Ytjjmbldgemnhbaa
