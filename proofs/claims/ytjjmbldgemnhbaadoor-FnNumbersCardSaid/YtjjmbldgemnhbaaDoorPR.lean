/-
  parse, l1Read, ParseInt, ParseNumber: the walks.
-/
import Derived.Test.YtjjmbldgemnhbaaDoorPN
import Derived.Test.YtjjmbldgemnhbaaDoorS5
namespace Go.Proofs.YtjjmbldgemnhbaaDoor
open Go.ChangeShapes Go.WideShapes Go.ChangeAt Go.RowKit
set_option linter.unusedVariables false
set_option linter.unusedSimpArgs false
set_option maxRecDepth 100000

/-- A variable that holds an error which is not nil. -/
def SentAt (w : World) (g : Nat) : Prop := ∃ tp p, w.cell? ⟨g, 0, none⟩ = some (.iface tp p)
theorem SentAt.later {w w' : World} {g : Nat} (h : SentAt w g) (hb : Later w w') : SentAt w' g := by
  obtain ⟨tp, p, h⟩ := h
  exact ⟨tp, p, kept_cell hb h⟩
structure ParseAt (w : World) : Prop where
  tab : TabAt w
  syn : SentAt w 0
  rng : SentAt w 1
theorem ParseAt.later {w w' : World} (h : ParseAt w) (hb : Later w w') : ParseAt w' := ⟨h.tab.later hb, h.syn.later hb, h.rng.later hb⟩

/-- A number and 'is it one'. -/
def optR : Option Int → Ending
  | some n => .returned (.tuple #[.int .i64 n, .bool true])
  | none => .returned (.tuple #[.int .i64 0, .bool false])

theorem implParse (s : ByteArray) (lo hi : Int) (hs : s.size ≤ 1048576) (W : World) (h : ParseAt W) : Calls Tryd.prog 16 #[.string s, .int .i64 lo, .int .i64 hi] W fun r w' => r = optR (parseB lo hi s) ∧ Later W w' := by
  obtain ⟨tp, p, hsyn⟩ := h.syn
  obtain ⟨tr, q, hrng⟩ := h.rng
  cases ha : Lib.atoiAll s.data.toList with
  | ok v =>
    have hbv := Lib.atoiAll_bounds ha
    have C := fun w => Tryd.strconv_Atoi_ok s (by omega) v ha w
    have HC := Lib.hid C
    have HT := Lib.hid h.tab
    have hpb : parseB lo hi s = if lo ≤ v ∧ v ≤ hi ∧ itoaB v = s then some v else none := by unfold parseB; rw [ha]
    have HP := Lib.hid hpb
    clear C hsyn hrng ha hpb h
    by_cases h1 : v < lo
    · have HV : Hid (parseB lo hi s = none) := by unfold Hid; rw [HP.out, if_neg (by omega)]
      go_enter Tryd.func16, Tryd.ntmps16
      go_wp2_with fail
      refine (HC.out _).mono ?_; rintro e w1 ⟨rfl, hw⟩
      have HL : Hid (Later W w1) := by
        rcases hw with rfl | ⟨t, rfl⟩
        · exact Later.rfl' _
        · exact Lib.bytesWorld_below _ _ _
      clear hw
      go_wp2_with fail
      go_ret2
      exact ⟨by rw [HV.out]; rfl, HL.out⟩
    · by_cases h2 : hi < v
      · have HV : Hid (parseB lo hi s = none) := by unfold Hid; rw [HP.out, if_neg (by omega)]
        have h1' : lo ≤ v := by omega
        clear h1
        go_enter Tryd.func16, Tryd.ntmps16
        go_wp2_with fail
        refine (HC.out _).mono ?_; rintro e w1 ⟨rfl, hw⟩
        have HL : Hid (Later W w1) := by
          rcases hw with rfl | ⟨t, rfl⟩
          · exact Later.rfl' _
          · exact Lib.bytesWorld_below _ _ _
        clear hw
        go_wp2_with fail
        go_ret2
        exact ⟨by rw [HV.out]; rfl, HL.out⟩
      · have h1' : lo ≤ v := by omega
        have h2' : v ≤ hi := by omega
        have CI := fun w (hw : TabAt w) => Tryd.strconv_Itoa v (by omega) (by omega) w hw
        rw [← itoaB_eq] at CI
        have HCI := Lib.hid CI
        have HV : Hid (parseB lo hi s = if itoaB v = s then some v else none) := by unfold Hid; rw [HP.out]; by_cases h : itoaB v = s <;> simp [h, h1', h2']
        obtain ⟨B, hB⟩ : ∃ B, B = itoaB v := ⟨_, rfl⟩
        rw [← hB] at HV HCI
        have hbe := beq_toList B s
        clear h1 h2 CI hB
        by_cases hBs : B = s
        · subst hBs
          have HV2 : Hid (parseB lo hi B = some v) := by unfold Hid; rw [HV.out, if_pos rfl]
          clear hbe
          go_enter Tryd.func16, Tryd.ntmps16
          go_wp2_with fail
          refine (HC.out _).mono ?_; rintro e w1 ⟨rfl, hw⟩
          have HL : Hid (Later W w1) := by
            rcases hw with rfl | ⟨t, rfl⟩
            · exact Later.rfl' _
            · exact Lib.bytesWorld_below _ _ _
          clear hw
          go_wp2_with fail
          refine (HCI.out _ (HT.out.later HL.out)).mono ?_; rintro e w2 ⟨rfl, k, os, rfl⟩
          have HL2 : Hid (Later W (Go.Sort.grow (w1.drewN k) os)) := HL.out.trans (Lib.below_grow _ w1 (Nat.le_refl _) k os)
          go_wp2_with fail
          go_ret2
          exact ⟨by rw [HV2.out]; rfl, HL2.out⟩
        · have HV2 : Hid (parseB lo hi s = none) := by unfold Hid; rw [HV.out, if_neg hBs]
          have hbf : (B.toList == s.toList) = false := by rw [hbe]; simpa using hBs
          clear hBs hbe
          go_enter Tryd.func16, Tryd.ntmps16
          go_wp2_with fail
          refine (HC.out _).mono ?_; rintro e w1 ⟨rfl, hw⟩
          have HL : Hid (Later W w1) := by
            rcases hw with rfl | ⟨t, rfl⟩
            · exact Later.rfl' _
            · exact Lib.bytesWorld_below _ _ _
          clear hw
          go_wp2_with fail
          refine (HCI.out _ (HT.out.later HL.out)).mono ?_; rintro e w2 ⟨rfl, k, os, rfl⟩
          have HL2 : Hid (Later W (Go.Sort.grow (w1.drewN k) os)) := HL.out.trans (Lib.below_grow _ w1 (Nat.le_refl _) k os)
          go_wp2_with fail
          go_ret2
          exact ⟨by rw [HV2.out]; rfl, HL2.out⟩
  | range =>
    have HC := Lib.hid (Tryd.strconv_Atoi_range s (by omega) ha (.iface tr q) W hrng (.inr ⟨_, _, rfl⟩))
    have HV : Hid (parseB lo hi s = none) := by unfold Hid parseB; rw [ha]
    clear ha hsyn hrng h
    go_enter Tryd.func16, Tryd.ntmps16
    go_wp2_with fail
    refine HC.out.mono ?_; rintro e w1 ⟨N, rfl, _, _, hw⟩
    have HL : Hid (Later W w1) := hw
    clear hw
    go_wp2_with fail
    go_ret2
    exact ⟨by rw [HV.out]; rfl, HL.out⟩
  | _ =>
    have HC := Lib.hid (Tryd.strconv_Atoi_syntax s (by omega) ha (.iface tp p) W hsyn (.inr ⟨_, _, rfl⟩))
    have HV : Hid (parseB lo hi s = none) := by unfold Hid parseB; rw [ha]
    clear ha hsyn hrng h
    go_enter Tryd.func16, Tryd.ntmps16
    go_wp2_with fail
    refine HC.out.mono ?_; rintro e w1 ⟨N, rfl, _, _, hw⟩
    have HL : Hid (Later W w1) := hw
    clear hw
    go_wp2_with fail
    go_ret2
    exact ⟨by rw [HV.out]; rfl, HL.out⟩
end Go.Proofs.YtjjmbldgemnhbaaDoor
