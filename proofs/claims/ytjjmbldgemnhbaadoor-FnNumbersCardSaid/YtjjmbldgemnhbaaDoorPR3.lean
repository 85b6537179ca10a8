/-
  ParseInt, ParseNumber: the walks; the laws FnExactParseInt, FnExactParseNumber: their walks.
-/
import Derived.Test.YtjjmbldgemnhbaaDoorPR2
namespace Go.Proofs.YtjjmbldgemnhbaaDoor
open Go.ChangeShapes Go.WideShapes Go.ChangeAt Go.RowKit
set_option linter.unusedVariables false
set_option linter.unusedSimpArgs false
set_option maxRecDepth 100000


theorem specParseInt (s : ByteArray) (hs : s.size ≤ 1048576) (W : World) : Calls Tryd.prog 6 #[.string s] W fun r w' => r = optR (readB 12 s) ∧ Later W w' := by
  have C := fun w (hw : Later W w) => specRead s 12 (by omega) hs w
  obtain ⟨o, ho⟩ : ∃ o, o = readB 12 s := ⟨_, rfl⟩
  simp only [← ho] at C
  rw [← ho]
  have HC := Lib.hid C
  clear C ho
  cases o with
  | some n =>
    go_enter Tryd.func6, Tryd.ntmps6
    go_wp2_with fail
    refine (HC.out _ (Later.rfl' _)).mono ?_; rintro e w1 ⟨he, hb⟩
    have HL := Lib.hid hb
    simp only [optR] at he
    subst he
    clear hb
    go_wp2_with fail
    go_ret2
    exact ⟨rfl, HL.out⟩
  | none =>
    go_enter Tryd.func6, Tryd.ntmps6
    go_wp2_with fail
    refine (HC.out _ (Later.rfl' _)).mono ?_; rintro e w1 ⟨he, hb⟩
    have HL := Lib.hid hb
    simp only [optR] at he
    subst he
    clear hb
    go_wp2_with fail
    go_ret2
    exact ⟨rfl, HL.out⟩

theorem implParseInt (s : ByteArray) (hs : s.size ≤ 1048576) (W : World) (h : ParseAt W) : Calls Tryd.prog 7 #[.string s] W fun r w' => r = optR (parseB (-999999999999) 999999999999 s) ∧ Later W w' := by
  have C := fun w (hw : Later W w) => implParse s (-999999999999) 999999999999 hs w (h.later hw)
  obtain ⟨o, ho⟩ : ∃ o, o = parseB (-999999999999) 999999999999 s := ⟨_, rfl⟩
  simp only [← ho] at C
  rw [← ho]
  have HC := Lib.hid C
  clear C ho h
  cases o with
  | some n =>
    go_enter Tryd.func7, Tryd.ntmps7
    go_wp2_with fail
    refine (HC.out _ (Later.rfl' _)).mono ?_; rintro e w1 ⟨he, hb⟩
    have HL := Lib.hid hb
    simp only [optR] at he
    subst he
    clear hb
    go_wp2_with fail
    go_ret2
    exact ⟨rfl, HL.out⟩
  | none =>
    go_enter Tryd.func7, Tryd.ntmps7
    go_wp2_with fail
    refine (HC.out _ (Later.rfl' _)).mono ?_; rintro e w1 ⟨he, hb⟩
    have HL := Lib.hid hb
    simp only [optR] at he
    subst he
    clear hb
    go_wp2_with fail
    go_ret2
    exact ⟨rfl, HL.out⟩

theorem implParseNumber (s : ByteArray) (hs : s.size ≤ 1048576) (W : World) (h : ParseAt W) : Calls Tryd.prog 9 #[.string s] W fun r w' => r = optR (parseB 0 999999 s) ∧ Later W w' := by
  have C := fun w (hw : Later W w) => implParse s 0 999999 hs w (h.later hw)
  obtain ⟨o, ho⟩ : ∃ o, o = parseB 0 999999 s := ⟨_, rfl⟩
  simp only [← ho] at C
  rw [← ho]
  have HC := Lib.hid C
  clear C ho h
  cases o with
  | some n =>
    go_enter Tryd.func9, Tryd.ntmps9
    go_wp2_with fail
    refine (HC.out _ (Later.rfl' _)).mono ?_; rintro e w1 ⟨he, hb⟩
    have HL := Lib.hid hb
    simp only [optR] at he
    subst he
    clear hb
    go_wp2_with fail
    go_ret2
    exact ⟨rfl, HL.out⟩
  | none =>
    go_enter Tryd.func9, Tryd.ntmps9
    go_wp2_with fail
    refine (HC.out _ (Later.rfl' _)).mono ?_; rintro e w1 ⟨he, hb⟩
    have HL := Lib.hid hb
    simp only [optR] at he
    subst he
    clear hb
    go_wp2_with fail
    go_ret2
    exact ⟨rfl, HL.out⟩
theorem specParseNumber (s : ByteArray) (hs : s.size ≤ 1048576) (W : World) : Calls Tryd.prog 8 #[.string s] W fun r w' => r = optR (nonneg (readB 6 s)) ∧ Later W w' := by
  have C := fun w (hw : Later W w) => specRead s 6 (by omega) hs w
  obtain ⟨o, ho⟩ : ∃ o, o = readB 6 s := ⟨_, rfl⟩
  simp only [← ho] at C
  rw [← ho]
  have HC := Lib.hid C
  clear C ho
  cases o with
  | some n =>
    by_cases hn : n < 0
    · have HV : Hid (nonneg (some n) = none) := if_pos hn
      go_enter Tryd.func8, Tryd.ntmps8
      go_wp2_with fail
      refine (HC.out _ (Later.rfl' _)).mono ?_; rintro e w1 ⟨he, hb⟩
      have HL := Lib.hid hb
      simp only [optR] at he
      subst he
      clear hb
      go_wp2_with fail
      go_ret2
      exact ⟨by rw [HV.out]; rfl, HL.out⟩
    · have HV : Hid (nonneg (some n) = some n) := if_neg hn
      have hn' : 0 ≤ n := by omega
      clear hn
      go_enter Tryd.func8, Tryd.ntmps8
      go_wp2_with fail
      refine (HC.out _ (Later.rfl' _)).mono ?_; rintro e w1 ⟨he, hb⟩
      have HL := Lib.hid hb
      simp only [optR] at he
      subst he
      clear hb
      go_wp2_with fail
      go_ret2
      exact ⟨by rw [HV.out]; rfl, HL.out⟩
  | none =>
    go_enter Tryd.func8, Tryd.ntmps8
    go_wp2_with fail
    refine (HC.out _ (Later.rfl' _)).mono ?_; rintro e w1 ⟨he, hb⟩
    have HL := Lib.hid hb
    simp only [optR] at he
    subst he
    clear hb
    go_wp2_with fail
    go_ret2
    exact ⟨rfl, HL.out⟩

theorem walk_FnExactParseInt (s : ByteArray) (w : World) (hs0 : s.size ≤ maxLen) (h : ParseAt w) : Calls Tryd.prog 3 #[.string s] w fun r w' => r = .returned (.bool true) ∧ Later w w' := by
  by_cases hbig : 1048576 < s.size
  · clear h
    go_enter Tryd.func3, Tryd.ntmps3
    go_wp2_with fail
    go_ret
    exact ⟨rfl, Later.rfl' _⟩
  have hs : s.size ≤ 1048576 := by omega
  clear hbig hs0
  have CS := fun W => specParseInt s hs W
  have CI := fun W (hW : Later w W) => implParseInt s hs W (h.later hW)
  rw [← read_parse s] at CI
  obtain ⟨o, ho⟩ : ∃ o, o = readB 12 s := ⟨_, rfl⟩
  simp only [← ho] at CS CI
  have HS := Lib.hid CS
  have HI := Lib.hid CI
  clear CS CI ho h
  cases o with
  | some n =>
    go_enter Tryd.func3, Tryd.ntmps3
    go_wp2_with fail
    refine (HS.out _).mono ?_; rintro e w1 ⟨he, hb⟩
    have HL := Lib.hid hb
    simp only [optR] at he
    subst he
    clear hb
    go_wp2_with fail
    refine (HI.out _ HL.out).mono ?_; rintro e w2 ⟨he, hb⟩
    have HL2 := Lib.hid (HL.out.trans hb)
    simp only [optR] at he
    subst he
    clear hb
    go_wp2_with fail
    go_ret
    exact ⟨rfl, HL2.out⟩
  | none =>
    go_enter Tryd.func3, Tryd.ntmps3
    go_wp2_with fail
    refine (HS.out _).mono ?_; rintro e w1 ⟨he, hb⟩
    have HL := Lib.hid hb
    simp only [optR] at he
    subst he
    clear hb
    go_wp2_with fail
    refine (HI.out _ HL.out).mono ?_; rintro e w2 ⟨he, hb⟩
    have HL2 := Lib.hid (HL.out.trans hb)
    simp only [optR] at he
    subst he
    clear hb
    go_wp2_with fail
    go_ret
    exact ⟨rfl, HL2.out⟩

theorem walk_FnExactParseNumber (s : ByteArray) (w : World) (hs0 : s.size ≤ maxLen) (h : ParseAt w) : Calls Tryd.prog 4 #[.string s] w fun r w' => r = .returned (.bool true) ∧ Later w w' := by
  by_cases hbig : 1048576 < s.size
  · clear h
    go_enter Tryd.func4, Tryd.ntmps4
    go_wp2_with fail
    go_ret
    exact ⟨rfl, Later.rfl' _⟩
  have hs : s.size ≤ 1048576 := by omega
  clear hbig hs0
  have CS := fun W => specParseNumber s hs W
  have CI := fun W (hW : Later w W) => implParseNumber s hs W (h.later hW)
  rw [← read_number s] at CI
  obtain ⟨o, ho⟩ : ∃ o, o = nonneg (readB 6 s) := ⟨_, rfl⟩
  simp only [← ho] at CS CI
  have HS := Lib.hid CS
  have HI := Lib.hid CI
  clear CS CI ho h
  cases o with
  | some n =>
    go_enter Tryd.func4, Tryd.ntmps4
    go_wp2_with fail
    refine (HS.out _).mono ?_; rintro e w1 ⟨he, hb⟩
    have HL := Lib.hid hb
    simp only [optR] at he
    subst he
    clear hb
    go_wp2_with fail
    refine (HI.out _ HL.out).mono ?_; rintro e w2 ⟨he, hb⟩
    have HL2 := Lib.hid (HL.out.trans hb)
    simp only [optR] at he
    subst he
    clear hb
    go_wp2_with fail
    go_ret
    exact ⟨rfl, HL2.out⟩
  | none =>
    go_enter Tryd.func4, Tryd.ntmps4
    go_wp2_with fail
    refine (HS.out _).mono ?_; rintro e w1 ⟨he, hb⟩
    have HL := Lib.hid hb
    simp only [optR] at he
    subst he
    clear hb
    go_wp2_with fail
    refine (HI.out _ HL.out).mono ?_; rintro e w2 ⟨he, hb⟩
    have HL2 := Lib.hid (HL.out.trans hb)
    simp only [optR] at he
    subst he
    clear hb
    go_wp2_with fail
    go_ret
    exact ⟨rfl, HL2.out⟩
end Go.Proofs.YtjjmbldgemnhbaaDoor
