/-
  The law FnNames: its walk.
-/
import Derived.Test.YthoflpaogfdkoaaSO2
import Derived.Test.YthoflpaogfdkoaaK4
import Derived.Test.YthoflpaogfdkoaaA5
namespace Go.Proofs.Ythoflpaogfdkoaa
open Go.ChangeShapes Go.WideShapes Go.ChangeAt Go.RowKit
set_option linter.unusedVariables false
set_option linter.unusedSimpArgs false
set_option maxRecDepth 100000

theorem risingC (xs : List ByteArray) (hr : Rising xs) (v : Value) (W : World) (h : Strs W v xs) : Calls Try.prog 64 #[v] W fun e w' => e = .returned (.bool true) ∧ Later W w' := by
  obtain ⟨_, A, c, rfl, hlc, hcm, hc⟩ := h
  have HC := Lib.hid hc
  clear hc
  go_enter Try.func64, Try.ntmps64
  go_wp2_with fail
  go_loopw [3] (fun i wr => ∃ j : Nat, 1 ≤ j ∧ i = .int .i64 j ∧ (j ≤ xs.length ∨ j = 1) ∧ Later W wr) (fun i _ => xs.length - (intOf i).toNat)
  case atStart => exact ⟨1, Nat.le_refl _, rfl, .inr rfl, Later.rfl' _⟩
  case round =>
    obtain ⟨j, hj1, rfl, hj, hw⟩ := hrel
    obtain ⟨m, rfl⟩ : ∃ m, j = m + 1 := ⟨j - 1, by omega⟩
    have hm1 : ((m + 1 : Nat) : Int) - 1 = (m : Int) := by omega
    by_cases hlt : m + 1 < xs.length
    · obtain ⟨b, off, hA, hb, e0⟩ := (HC.out.later hw).at_ (k := m) (by simp; omega)
      obtain ⟨b', off', hA', hb', e1⟩ := (HC.out.later hw).at_ (k := m + 1) (by simpa using hlt)
      subst hA
      cases hA'
      simp only [List.getElem_map] at e0 e1
      have hs := rising_step hr hlt
      obtain ⟨X, hX⟩ : ∃ x, x = xs[m] := ⟨_, rfl⟩
      obtain ⟨Y, hY⟩ : ∃ x, x = xs[m + 1] := ⟨_, rfl⟩
      rw [← hX] at e0 hs
      rw [← hY] at e1 hs
      have hki : ((m + 1 : Nat) : Int) < (xs.length : Int) := by omega
      have hki2 : (m : Int) < (xs.length : Int) := by omega
      have HW := Lib.hid hw
      clear hX hY hw hr
      go_wp2
      go_quiet (fail)
      go_wp2
      go_roundw
      case rel => exact ⟨m + 2, by omega, by go_num, by omega, HW.out.trans (Later.drewN _ _)⟩
      case measure => simp [intOf]; omega
    · have hki : ¬ ((m + 1 : Nat) : Int) < (xs.length : Int) := by omega
      clear hr
      go_wp2
      go_ret
      exact ⟨rfl, hw⟩

theorem drawSortNames (v : Value) (n : Nat) (W : World) (h : BytesAt W v n) (hn : n ≤ 1048576) : Calls Try.prog 63 #[v] W fun r w' => (∃ xs a, r = .returned a ∧ Strs w' a xs ∧ xs.length ≤ 6) ∧ Later W w' := by
  have HC := Lib.hid (drawNew v n W h hn)
  clear h
  go_enter Try.func63, Try.ntmps63
  go_wp2_with fail
  refine HC.out.mono ?_; rintro e w1 ⟨⟨g, rfl, hg, hc⟩, hb1⟩
  have HCU := Lib.hid hc; have HG := Lib.hid hg; have L1 := Lib.hid hb1
  clear hc hg hb1
  go_wp2_with fail
  refine (drawNames g _ HCU.out).mono ?_; rintro e w2 ⟨⟨xs, a, rfl, hx⟩, hcu, hch⟩
  have L2 := Lib.hid (Chg.later L1.out hch fun k hk => by unfold onlyB at hk; have := HG.out; omega)
  have HX := Lib.hid hx
  clear hcu hch hx
  go_wp2_with fail
  go_ret
  exact ⟨⟨xs, a, rfl, HX.out.strs, HX.out.2.1⟩, L2.out⟩

theorem walk_FnNames (v : Value) (n : Nat) (w : World) (h : BytesAt w v n) : Calls Try.prog 12 #[v] w fun r w' => r = .returned (.bool true) ∧ Later w w' := by
  by_cases hbig : 1048576 < n
  · have C0 := bigBytes v n w h
    rw [show decide (1048576 < n) = true by simp; omega] at C0
    have HB := Lib.hid C0
    clear C0 hbig h
    go_enter Try.func12, Try.ntmps12
    go_wp2_with fail
    refine HB.out.mono ?_; rintro e w1 ⟨rfl, hb1⟩
    go_wp2_with fail
    go_ret
    exact ⟨rfl, hb1⟩
  · have C0 := bigBytes v n w h
    rw [show decide (1048576 < n) = false by simp; omega] at C0
    have hle : n ≤ 1048576 := by omega
    have hbl := fun W (hW : Later w W) => BytesAt.later h hW
    have C1 := fun W (hW : Later w W) => drawSortNames v n W (hbl W hW) hle
    have HB := Lib.hid C0; have HD := Lib.hid C1
    clear C0 C1 hbig hle hbl h
    go_enter Try.func12, Try.ntmps12
    go_wp2_with fail
    refine HB.out.mono ?_; rintro e w1 ⟨rfl, hb⟩
    have L := Lib.hid hb; clear hb HB
    go_wp2_with fail
    refine (HD.out _ L.out).mono ?_; rintro e w2 ⟨⟨xs, a, rfl, hx, hxl⟩, hb⟩
    replace L := Lib.hid (L.out.trans hb); clear hb HD
    have HX := Lib.hid hx
    have hn1 : xs.length ≤ 1048576 := by omega
    have hso : (sortB xs).length ≤ 1048576 := by have := firsts_le xs; rw [length_sortB]; omega
    have hfx := hx.1.2
    have hfo : ∀ x ∈ sortB xs, x.size ≤ 9223372036854775807 := fun x hm => hfx x ((mem_sortB xs x).1 hm)
    have hi1 : ∀ x ∈ xs, 0 ≤ indexB (sortB xs) x := fun x hm => index_mem ((mem_sortB xs x).2 hm)
    have hi2 : ∀ x ∈ sortB xs, 0 ≤ indexB xs x := fun x hm => index_mem ((mem_sortB xs x).1 hm)
    have CA := fun a W (ha : Strs W a xs) => implSortNames a xs W ha hn1
    have CB := fun a W (ha : Strs W a (sortB xs)) => implSortNames a (sortB xs) W ha hso
    simp only [sortB_again] at CB
    have CR := fun a W (ha : Strs W a (sortB xs)) => risingC (sortB xs) (rising_sortB xs) a W ha
    have CD := fun a W (ha : Strs W a (sortB xs)) => implAllDistinct a (sortB xs) W ha
    rw [rising_distinct (rising_sortB xs)] at CD
    have CI := fun x a W (ha : Strs W a (sortB xs)) => implIndexOf a (sortB xs) x W ha
    have CJ := fun x a W (ha : Strs W a xs) => specIndexOf a xs x W ha
    obtain ⟨O, hO⟩ : ∃ O, O = sortB xs := ⟨_, rfl⟩
    simp only [← hO] at CA CB CR CD CI hfo hi1 hi2 hso
    have HA := Lib.hid CA; have HBB := Lib.hid CB; have HR := Lib.hid CR; have HD := Lib.hid CD; have HI := Lib.hid CI; have HJ := Lib.hid CJ
    have HFO := Lib.hid hfo; have HI1 := Lib.hid hi1; have HI2 := Lib.hid hi2; have HSAME := Lib.hid (sameTextsC O)
    obtain ⟨_, A0, c0, rfl, hlc0, hcm0, hcc0⟩ := hx
    have HC0 := Lib.hid hcc0
    clear CA CB CR CD CI CJ hfo hi1 hi2 hfx hO hn1 hcc0
    go_wp2_with fail
    refine (HA.out _ _ HX.out).mono ?_; rintro e w3 ⟨⟨o, rfl, ho⟩, hb⟩
    replace L := Lib.hid (L.out.trans hb); replace HX := Lib.hid (HX.out.later hb); replace HC0 := Lib.hid (HC0.out.later hb)
    have HO := Lib.hid (own_row_strs ho HFO.out)
    clear ho hb HA
    go_wp2_with fail
    refine (HR.out _ _ HO.out).mono ?_; rintro e w4 ⟨rfl, hb⟩
    replace L := Lib.hid (L.out.trans hb); replace HX := Lib.hid (HX.out.later hb); replace HC0 := Lib.hid (HC0.out.later hb); replace HO := Lib.hid (HO.out.later hb)
    clear hb HR
    go_wp2_with fail
    refine (HBB.out _ _ HO.out).mono ?_; rintro e w5 ⟨⟨o2, rfl, ho2⟩, hb⟩
    replace L := Lib.hid (L.out.trans hb); replace HX := Lib.hid (HX.out.later hb); replace HC0 := Lib.hid (HC0.out.later hb); replace HO := Lib.hid (HO.out.later hb)
    have HO2 := Lib.hid (own_row_strs ho2 HFO.out)
    clear hb HBB ho2
    go_wp2_with fail
    refine (HSAME.out _ _ _ HO2.out HO.out).mono ?_; rintro e w6 ⟨rfl, hb⟩
    replace L := Lib.hid (L.out.trans hb); replace HX := Lib.hid (HX.out.later hb); replace HC0 := Lib.hid (HC0.out.later hb); replace HO := Lib.hid (HO.out.later hb)
    clear hb HSAME HO2
    go_wp2_with fail
    refine (HD.out _ _ HO.out).mono ?_; rintro e w7 ⟨rfl, hb⟩
    replace hb := hb.later
    replace L := Lib.hid (L.out.trans hb); replace HX := Lib.hid (HX.out.later hb); replace HC0 := Lib.hid (HC0.out.later hb); replace HO := Lib.hid (HO.out.later hb)
    clear hb HD
    go_wp2_with fail
    go_loopw [5] (fun i wr => ∃ j : Nat, j ≤ xs.length ∧ i = .int .i64 j ∧ Later w7 wr) (fun i _ => xs.length - (intOf i).toNat)
    case atStart => exact ⟨0, Nat.zero_le _, rfl, Later.rfl' _⟩
    case round =>
      obtain ⟨j, hj, rfl, hw⟩ := hrel
      by_cases hlt : j < xs.length
      · obtain ⟨bb, off, rfl, hbb, e0⟩ := (HC0.out.later hw).at_ (k := j) (by simpa using hlt)
        simp only [List.getElem_map] at e0
        have hge := HI1.out _ (List.getElem_mem hlt)
        obtain ⟨X, hXX⟩ : ∃ x, x = xs[j] := ⟨_, rfl⟩
        rw [← hXX] at e0 hge
        have C := HI.out X _ wr (HO.out.later hw)
        obtain ⟨I, hI⟩ : ∃ I, I = indexB O X := ⟨_, rfl⟩
        simp only [← hI] at C hge
        have hlt0 : ¬ I < 0 := by omega
        have HCI := Lib.hid C
        have HWW := Lib.hid hw
        have hki : (j : Int) < (xs.length : Int) := by omega
        clear C hI hw hXX
        go_wp2_with fail
        refine HCI.out.mono ?_; rintro e w8 ⟨rfl, hd⟩
        have HL2 := Lib.hid (HWW.out.trans hd.later)
        clear hd
        go_wp2_with fail
        go_roundw
        case rel => exact ⟨j + 1, by omega, by go_num, HL2.out⟩
        case measure => simp [intOf]; omega
      · replace L := Lib.hid (L.out.trans hw); replace HX := Lib.hid (HX.out.later hw); replace HO := Lib.hid (HO.out.later hw)
        clear hw HC0
        obtain ⟨_, A, c, rfl, hlc, hcm, hcc⟩ := HO.out
        have HCC := Lib.hid hcc
        clear hcc HI HI1
        go_wp2_with fail
        go_loopw [6] (fun i wr2 => ∃ j : Nat, j ≤ O.length ∧ i = .int .i64 j ∧ Later wr wr2) (fun i _ => O.length - (intOf i).toNat)
        case atStart => exact ⟨0, Nat.zero_le _, rfl, Later.rfl' _⟩
        case round =>
          obtain ⟨j2, hj2, rfl, hw⟩ := hrel
          by_cases hlt : j2 < O.length
          · obtain ⟨bb, off, rfl, hbb, e0⟩ := (HCC.out.later hw).at_ (k := j2) (by simpa using hlt)
            simp only [List.getElem_map] at e0
            have hge := HI2.out _ (List.getElem_mem hlt)
            obtain ⟨X, hXX⟩ : ∃ x, x = O[j2] := ⟨_, rfl⟩
            rw [← hXX] at e0 hge
            have C := HJ.out X _ _ (HX.out.later hw)
            obtain ⟨I, hI⟩ : ∃ I, I = indexB xs X := ⟨_, rfl⟩
            simp only [← hI] at C hge
            have hlt0 : ¬ I < 0 := by omega
            have HCI := Lib.hid C
            have HWW := Lib.hid hw
            have hki : (j2 : Int) < (O.length : Int) := by omega
            clear C hI hw hXX
            go_wp2_with fail
            refine HCI.out.mono ?_; rintro e w8 ⟨rfl, hd⟩
            have HL2 := Lib.hid (HWW.out.trans hd.later)
            clear hd
            go_wp2_with fail
            go_roundw
            case rel => exact ⟨j2 + 1, by omega, by go_num, HL2.out⟩
            case measure => simp [intOf]; omega
          · have L2 := Lib.hid (L.out.trans hw)
            clear hw HCC HX HJ HI2
            go_wp2_with fail
            go_ret
            exact ⟨rfl, L2.out⟩
end Go.Proofs.Ythoflpaogfdkoaa
