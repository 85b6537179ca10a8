/-
  impl.Join; the law FnExactJoin: its walk.
-/
import Derived.Test.YtgcdnmpgfgefoaaJ2
import Derived.Test.YtgcdnmpgfgefoaaW3
namespace Go.Proofs.Ytgcdnmpgfgefoaa
open Go.ChangeShapes Go.WideShapes Go.ChangeAt Go.RowKit
set_option linter.unusedVariables false
set_option linter.unusedSimpArgs false

theorem joinB_bound (xs : List ByteArray) (sep : ByteArray) (hn : costS xs ≤ 1048576) (hs : sep.size ≤ 1048576) : (joinB xs sep).length ≤ 2199023255552 := by
  have h1 := joinB_le xs sep
  have h3 : sep.size * xs.length ≤ 1048576 * 1048576 := Nat.mul_le_mul hs (by unfold costS at hn; omega)
  unfold costS at hn
  omega

theorem implJoin (v : Value) (xs : List ByteArray) (sep : ByteArray) (w : World) (h : Strs w v xs) (hn : costS xs ≤ 1048576) (hs : sep.size ≤ 1048576) :
    Calls Try.prog 31 #[v, .string sep] w fun e w' => e = .returned (.string ⟨(joinB xs sep).toArray⟩) ∧ Later w w' := by
  have hbd := joinB_bound xs sep hn hs
  obtain ⟨_, A, c, rfl, hlc, hcm, hc⟩ := h
  by_cases h0 : xs.length = 0
  · have hx : xs = [] := List.eq_nil_of_length_eq_zero h0
    subst hx
    have C := fun W => Try.strings_Join_none A c sep W
    clear hc hbd hn h0
    go_enter Try.func31, Try.ntmps31
    go_wp2_with fail
    refine (C _).mono ?_; rintro r w1 ⟨rfl, rfl⟩
    go_wp2_with fail
    go_ret
    exact ⟨rfl, Later.rfl' _⟩
  · obtain ⟨b, off, rfl, hb, hcell⟩ := hc (by
      intro e
      apply h0
      have := congrArg List.length e
      simpa using this)
    have C := Try.strings_Join b off c xs sep w (fun j x hx => hcell j _ (by rw [List.getElem?_map, hx]; rfl)) hb (by unfold costS at hn; omega) hlc (by unfold joinB at hbd; omega)
    have HC := Lib.hid C
    clear C hc hcell hbd hn h0
    go_enter Try.func31, Try.ntmps31
    go_wp2_with fail
    refine HC.out.mono ?_; rintro r w1 ⟨rfl, hb1⟩
    have HB := Lib.hid hb1
    clear hb1
    go_wp2_with fail
    go_ret
    exact ⟨rfl, HB.out⟩

theorem walk_FnExactJoin (v : Value) (xs : List ByteArray) (s : ByteArray) (w : World) (h : Strs w v xs) (hs : s.size ≤ maxLen) : Calls Try.prog 9 #[v, .string s] w fun r w' => r = .returned (.bool true) ∧ Later w w' := by
  by_cases hb : 1048576 < s.size
  · go_enter Try.func9, Try.ntmps9
    go_wp2_with fail
    go_ret
    exact ⟨rfl, Later.rfl' _⟩
  have hsb : s.size ≤ 1048576 := by omega
  have C1 := szStringS v xs 1048576 w h (by omega) (by omega)
  by_cases hc : costS xs ≤ 1048576
  · rw [szR_small (by omega)] at C1
    have hp : (0 : Int) ≤ 1048576 - (costS xs : Int) := by omega
    have hnx : xs.length ≤ 1048576 := by unfold costS at hc; omega
    have hfx := h.1.2
    obtain ⟨c1, hc1⟩ : ∃ c1 : Int, c1 = (costS xs : Int) := ⟨_, rfl⟩
    rw [← hc1] at C1 hp
    have CA := fun W hW => copyRow (w := W) (h.later hW) hnx
    have CS := fun W a (ha : Strs W a xs) => specJoin a xs s W ha hc hsb
    have CI := fun W a (ha : Strs W a xs) => implJoin a xs s W ha hc hsb
    obtain ⟨K, hK⟩ : ∃ K : ByteArray, K = ⟨(joinB xs s).toArray⟩ := ⟨_, rfl⟩
    rw [← hK] at CS CI
    have Hx := Lib.hid hfx
    have H1 := Lib.hid C1; have HA := Lib.hid CA; have HS := Lib.hid CS; have HI := Lib.hid CI
    clear C1 CA CS CI hfx hc hnx hc1 hK h
    go_enter Try.func9, Try.ntmps9
    go_wp2_with fail
    refine H1.out.mono ?_; rintro r w1 ⟨rfl, hd⟩
    have L := Lib.hid hd.later; clear hd
    go_wp2_with fail
    refine (HA.out _ L.out).mono ?_; rintro r w3 ⟨⟨a1, rfl, ha1⟩, hb⟩
    replace L := Lib.hid (L.out.trans hb)
    replace ha1 := Lib.hid ha1; clear hb
    go_wp2_with fail
    refine (HS.out _ _ (ha1.out.strs Hx.out)).mono ?_; rintro r w5 ⟨rfl, hb⟩
    replace L := Lib.hid (L.out.trans hb); clear hb ha1
    go_wp2_with fail
    refine (HA.out _ L.out).mono ?_; rintro r w6 ⟨⟨x0, rfl, hx0⟩, hb⟩
    replace L := Lib.hid (L.out.trans hb)
    replace hx0 := Lib.hid hx0; clear hb
    go_wp2_with fail
    refine (HI.out _ _ (hx0.out.strs Hx.out)).mono ?_; rintro r w8 ⟨rfl, hb⟩
    replace L := Lib.hid (L.out.trans hb)
    replace hx0 := Lib.hid (hx0.out.later hb); clear hb
    go_wp2_with fail
    refine (HA.out _ L.out).mono ?_; rintro r w10 ⟨⟨b1, rfl, hb1⟩, hb⟩
    replace L := Lib.hid (L.out.trans hb)
    replace hx0 := Lib.hid (hx0.out.later hb)
    replace hb1 := Lib.hid hb1; clear hb
    go_wp2_with fail
    refine (eqRow (hx0.out.strs Hx.out) (hb1.out.strs Hx.out)).mono ?_; rintro r w11 ⟨rfl, hb⟩
    replace L := Lib.hid (L.out.trans hb)
    clear hb hb1
    go_wp2_with fail
    go_ret
    exact ⟨rfl, L.out⟩
  · rw [szR_big (by omega)] at C1
    have H1 := Lib.hid C1
    clear C1 hc h
    go_enter Try.func9, Try.ntmps9
    go_wp2_with fail
    refine H1.out.mono ?_; rintro r w1 ⟨rfl, hd⟩
    have L := Lib.hid hd.later; clear hd
    go_wp2_with fail
    go_ret
    exact ⟨rfl, L.out⟩
end Go.Proofs.Ytgcdnmpgfgefoaa
