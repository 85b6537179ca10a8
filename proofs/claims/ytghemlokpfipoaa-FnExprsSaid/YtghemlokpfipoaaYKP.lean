/-
  Draws of numbers and texts: l1PickInt, l3Num, l3Text: the walks.
-/
import Derived.Test.YtghemlokpfipoaaYK3
import Derived.Test.YtghemlokpfipoaaYV7
namespace Go.Proofs.Ytghemlokpfipoaa
open Go.ChangeShapes Go.WideShapes Go.ChangeAt Go.RowKit
set_option linter.unusedVariables false
set_option linter.unusedSimpArgs false
set_option maxRecDepth 100000

theorem drawPickInt (g b : Nat) (xs : List Int) (hne : b ≠ g) (h0 : 0 < xs.length) (h1 : xs.length ≤ 256) (W : World) (hc : CurAt W g) (B : Box W b (xs.map (.int .i64))) :
    Calls Try.prog 160 #[.pointer (some ⟨g, 0, none⟩), .slice (some ⟨b, 0, none⟩) xs.length xs.length] W fun r w' => (∃ s, s ∈ xs ∧ r = .returned (.int .i64 s)) ∧ CurAt w' g ∧ Chg (onlyB g) W w' := by
  have HC := Lib.hid (drawBelow xs.length g h0 h1 W hc)
  have HB := Lib.hid B
  clear hc B h0 h1
  go_enter Try.func160, Try.ntmps160
  go_wp2_with fail
  refine HC.out.mono ?_; rintro e w1 ⟨⟨x, hx, rfl⟩, hcu, hch⟩
  have hcell := (HB.out.chg hch (fun e => hne e)).cell (j := x) (u := .int .i64 xs[x]) (by simp [hx])
  have hm : xs[x] ∈ xs := List.getElem_mem hx
  have hki : (x : Int) < (xs.length : Int) := by omega
  obtain ⟨s, hs⟩ : ∃ s, s = xs[x] := ⟨_, rfl⟩
  rw [← hs] at hcell hm
  have HM := Lib.hid hm
  have H1 := Lib.hid hcu; have H2 := Lib.hid hch
  clear hcu hch hs hm HC HB
  go_wp2_with fail
  go_ret
  exact ⟨⟨s, HM.out, rfl⟩, H1.out, H2.out⟩

def numList : List Int := [1000000000, -1000000000, 999999999, 500000000, 40000]
theorem numList_small : ∀ x ∈ numList, -1000000000 ≤ x ∧ x ≤ 1000000000 := by decide
def SmallN (g : Nat) (W w' : World) (r : Ending) : Prop := (∃ x : Int, (-1000000000 ≤ x ∧ x ≤ 1000000000) ∧ r = .returned (.int .i64 x)) ∧ CurAt w' g ∧ Chg (onlyB g) W w'
theorem drawNum (g : Nat) (W : World) (hc : CurAt W g) : Calls Try.prog 136 #[.pointer (some ⟨g, 0, none⟩)] W fun r w' => SmallN g W w' r := by
  have C := fun w b (hb : b ≠ g) (hcu : CurAt w g) (B : Box w b (numList.map (.int .i64))) => drawPickInt g b numList hb (by decide) (by decide) w hcu B
  have HC := Lib.hid C
  have HO := Lib.hid (drawOnce 12 g (by omega) (by omega) W hc)
  clear C hc
  go_enter Try.func136, Try.ntmps136
  go_wp2_with fail
  refine HO.out.mono ?_; rintro e w1 ⟨⟨q, rfl⟩, hcu, hch⟩
  have H1 := Lib.hid hcu; have H2 := Lib.hid hch
  have hlt := hcu.lt
  clear hcu hch HO
  cases q with
  | true =>
    go_wp2_with fail
    refine (HC.out _ _ (by omega) (H1.out.later ((Later.rfl' _).alloc _)) (box_alloc _ _ _)).mono ?_; rintro e w2 ⟨⟨s, hs, rfl⟩, hcu, hch⟩
    have H3 := Lib.hid hcu; have H4 := Lib.hid (H2.out.trans ((((Later.rfl' w1).alloc _).chg (onlyB g)).trans hch)); have HM := Lib.hid (numList_small s hs)
    clear hcu hch hs
    go_wp2_with fail
    go_ret
    exact ⟨⟨s, HM.out, rfl⟩, H3.out, H4.out⟩
  | false =>
    go_wp2_with fail
    refine (drawBelow 12 g (by omega) (by omega) _ H1.out).mono ?_; rintro e w2 ⟨⟨x, hx, rfl⟩, hcu, hch⟩
    have H3 := Lib.hid hcu; have H4 := Lib.hid (H2.out.trans hch)
    have HX := Lib.hid hx
    clear hcu hch
    go_wp2_with fail
    go_ret
    exact ⟨⟨(x : Int) - 3, by have := HX.out; omega, rfl⟩, H3.out, H4.out⟩

def textList : List ByteArray := [⟨#[]⟩, ⟨#[97]⟩, ⟨#[98]⟩, ⟨#[97, 98]⟩, ⟨#[104, 101, 108, 108, 111]⟩, ⟨#[116, 119, 101, 110, 116, 121, 32, 99, 104, 97, 114, 97, 99, 116, 101, 114, 115, 32, 111, 107]⟩, ⟨#[110, 105, 110, 101, 116, 101, 101, 110, 32, 99, 104, 97, 114, 97, 99, 116, 101, 114, 46]⟩]
theorem textList_small : ∀ s ∈ textList, s.size ≤ 100 := by decide
theorem drawText (g : Nat) (W : World) (hc : CurAt W g) : Calls Try.prog 139 #[.pointer (some ⟨g, 0, none⟩)] W fun r w' => SmallS g W w' r := by
  have hlt := hc.lt
  have C := fun w b (hb : b ≠ g) (hcu : CurAt w g) (B : Box w b (textList.map .string)) => drawPick g b textList hb (by decide) (by decide) w hcu B
  have HC := Lib.hid C
  have HCU := Lib.hid hc
  clear C hc
  go_enter Try.func139, Try.ntmps139
  go_wp2_with fail
  refine (HC.out _ _ (by omega) (HCU.out.later ((Later.rfl' _).alloc _)) (box_alloc _ _ _)).mono ?_; rintro e w1 ⟨⟨s, hs, rfl⟩, hcu, hch⟩
  have H1 := Lib.hid hcu; have H2 := Lib.hid ((((Later.rfl' W).alloc _).chg (onlyB g)).trans hch); have HM := Lib.hid (textList_small s hs)
  clear hcu hch hs
  go_wp2_with fail
  go_ret
  exact ⟨⟨s, HM.out, rfl⟩, H1.out, H2.out⟩
end Go.Proofs.Ytghemlokpfipoaa
