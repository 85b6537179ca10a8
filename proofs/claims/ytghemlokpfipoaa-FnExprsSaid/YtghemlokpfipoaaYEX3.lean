/-
  Draws of expressions in one form; leaves, columns: the walks.
-/
import Derived.Test.YtghemlokpfipoaaYEX2
namespace Go.Proofs.Ytghemlokpfipoaa
open Go.ChangeShapes Go.WideShapes Go.ChangeAt Go.RowKit
set_option linter.unusedVariables false
set_option linter.unusedSimpArgs false
set_option maxRecDepth 100000

/-- An expression that has been returned, its slice in memory at or above lo. -/
def OutX (M lo : Nat) (w' : World) (r : Ending) : Prop :=
  ∃ k n t args A c, r = .returned (.agg #[.int .i64 k, .int .i64 n, .string t, .slice A (args : List Ex).length c]) ∧ SmallE k n t ∧ (Ex.mk k n t args).cost ≤ M ∧ TopE lo w' args (.slice A args.length c)
theorem DrawnX.step {M g lo : Nat} {w w' : World} {r : Ending} (h : DrawnX M g w w' r) (hlo : lo ≤ w.heap.size) : OutX M lo w' r ∧ CurAt w' g ∧ Chg (onlyB g) w w' := by
  obtain ⟨⟨k, n, t, args, v, h1, h2, h3, h4⟩, h5⟩ := h
  obtain ⟨A, c, rfl⟩ := h4.shape
  exact ⟨⟨k, n, t, args, A, c, h1, h2, h3, h4.base hlo⟩, h5⟩
theorem leafX {M lo : Nat} {w : World} {k n : Int} {t : ByteArray} {r : Ending} (hr : r = .returned (.agg #[.int .i64 k, .int .i64 n, .string t, .slice none 0 0])) (hs : SmallE k n t) (hM : t.size ≤ M) : OutX M lo w r :=
  ⟨k, n, t, [], none, 0, hr, hs, by rw [costX]; simpa [Ex.costs] using hM, TopE.nil _ _⟩
theorem numX (n : Int) (hn : -2000000000 ≤ n ∧ n ≤ 2000000000) (lo g : Nat) (W : World) (hc : CurAt W g) : Calls Try.prog 162 #[.int .i64 n] W fun r w' => OutX 0 lo w' r ∧ CurAt w' g ∧ Chg (onlyB g) W w' :=
  (specNumX n W).mono fun r w' h => ⟨leafX h.1 ⟨by omega, hn, by decide⟩ (by decide), hc.later h.2, h.2.chg _⟩
theorem callX (s : ByteArray) (hs : s.size ≤ 100) (args : List Ex) (A : Option Addr) (c lo M : Nat) (g : Nat) (W : World) (hM : s.size + (args.length + Ex.costs args) ≤ M) (hc : CurAt W g) (ht : TopE lo W args (.slice A args.length c)) :
    Calls Try.prog 212 #[.string s, .slice A args.length c] W fun r w' => OutX M lo w' r ∧ CurAt w' g ∧ Chg (onlyB g) W w' :=
  (specCallX s A args.length c W).mono fun r w' h => ⟨⟨5, 0, s, args, A, c, h.1, ⟨by omega, by omega, hs⟩, by rw [costX]; exact hM, ht.later h.2⟩, hc.later h.2, h.2.chg _⟩
theorem opX (op : Int) (hop : 0 ≤ op ∧ op ≤ 100) (k n : Int) (t : ByteArray) (xa : List Ex) (A : Option Addr) (c : Nat) (k' n' : Int) (t' : ByteArray) (xb : List Ex) (B : Option Addr) (d : Nat) (lo M : Nat) (g : Nat) (W : World)
    (hM : 2 + ((Ex.mk k n t xa).cost + (Ex.mk k' n' t' xb).cost) ≤ M) (hlo : lo ≤ W.heap.size) (hc : CurAt W g) (hs : SmallE k n t) (ht : TopE lo W xa (.slice A xa.length c)) (hs' : SmallE k' n' t') (ht' : TopE lo W xb (.slice B xb.length d)) :
    Calls Try.prog 161 #[.int .i64 op, .agg #[.int .i64 k, .int .i64 n, .string t, .slice A xa.length c], .agg #[.int .i64 k', .int .i64 n', .string t', .slice B xb.length d]] W fun r w' => OutX M lo w' r ∧ CurAt w' g ∧ Chg (onlyB g) W w' := by
  refine (specOpX op (.mk k n t xa) (.mk k' n' t' xb) _ _ lo W hlo (ht.ats hs) (ht'.ats hs')).mono fun r w' h => ?_
  obtain ⟨⟨v, h1, h2⟩, h3⟩ := h
  obtain ⟨E, m, rfl⟩ := h2.shape
  exact ⟨⟨6, op, ⟨#[]⟩, _, E, m, h1, ⟨by omega, by omega, by decide⟩, by rw [costX, costs_two, show (⟨#[]⟩ : ByteArray).size = 0 from rfl]; simpa using hM, h2⟩, hc.later h3, h3.chg _⟩
theorem pickX (k n : Int) (t : ByteArray) (xa : List Ex) (A : Option Addr) (c : Nat) (k' n' : Int) (t' : ByteArray) (xb : List Ex) (B : Option Addr) (d : Nat) (lo M : Nat) (g : Nat) (W : World) (hg : g < lo) (hc : CurAt W g)
    (hs : SmallE k n t) (ht : TopE lo W xa (.slice A xa.length c)) (hM : (Ex.mk k n t xa).cost ≤ M) (hs' : SmallE k' n' t') (ht' : TopE lo W xb (.slice B xb.length d)) (hM' : (Ex.mk k' n' t' xb).cost ≤ M) :
    Calls Try.prog 213 #[.pointer (some ⟨g, 0, none⟩), .agg #[.int .i64 k, .int .i64 n, .string t, .slice A xa.length c], .agg #[.int .i64 k', .int .i64 n', .string t', .slice B xb.length d]] W fun r w' => OutX M lo w' r ∧ CurAt w' g ∧ Chg (onlyB g) W w' := by
  refine (specPickX g k n t A xa.length c k' n' t' B xb.length d W hc).mono fun r w' h => ?_
  obtain ⟨h1, h2, h3⟩ := h
  refine ⟨?_, h2, h3⟩
  rcases h1 with h1 | h1
  · exact ⟨k, n, t, xa, A, c, h1, hs, hM, ht.chg h3 fun b h1 h2 e => by unfold onlyB at e; omega⟩
  · exact ⟨k', n', t', xb, B, d, h1, hs', hM', ht'.chg h3 fun b h1 h2 e => by unfold onlyB at e; omega⟩

def lfList : List ByteArray := [⟨#[97]⟩, ⟨#[97, 98]⟩, ⟨#[]⟩, ⟨#[98]⟩]
theorem lfList_small : ∀ s ∈ lfList, s.size ≤ 100 := by decide
def colList : List ByteArray := [⟨#[97]⟩, ⟨#[97]⟩, ⟨#[98]⟩, ⟨#[99]⟩, ⟨#[120]⟩]
theorem colList_small : ∀ s ∈ colList, s.size ≤ 100 := by decide

set_option maxHeartbeats 4000000 in
theorem drawLeaf (g : Nat) (xs : List ByteArray) (v : Value) (W : World) (hc : CurAt W g) (hn : NamesAt g W xs v) : Calls Try.prog 158 #[.pointer (some ⟨g, 0, none⟩), v] W fun r w' => DrawnX 100 g W w' r := by
  have hlt := hc.lt
  have HN := Lib.hid (fun w' (h : Chg (onlyB g) (W.alloc (.cells #[.int .i64 0, .int .i64 0, .string ⟨#[]⟩, .slice none 0 0] 67)) w') => (hn.later ((Later.rfl' W).alloc (.cells #[.int .i64 0, .int .i64 0, .string ⟨#[]⟩, .slice none 0 0] 67))).chg h)
  have HC0 := Lib.hid (hc.later ((Later.rfl' W).alloc (.cells #[.int .i64 0, .int .i64 0, .string ⟨#[]⟩, .slice none 0 0] 67)))
  have HCP := Lib.hid (fun w b (hb : b ≠ g) (hcu : CurAt w g) (B : Box w b (lfList.map .string)) => drawPick g b lfList hb (by decide) (by decide) w hcu B)
  obtain ⟨b, off, c, rfl, _⟩ := hn.cell
  clear hc hn
  go_enter Try.func158, Try.ntmps158
  go_wp2_with fail
  refine (drawBelow 5 g (by omega) (by omega) _ HC0.out).mono ?_; rintro e w1 ⟨⟨m, hm, rfl⟩, hcu, hch⟩
  have HCX := Lib.hid hcu; have HHX := Lib.hid hch
  clear hcu hch HC0
  have hm5 : m = 0 ∨ m = 1 ∨ m = 2 ∨ m = 3 ∨ m = 4 := by omega
  clear hm
  rcases hm5 with rfl | rfl | rfl | rfl | rfl
  · go_wp2_with fail
    refine (HCP.out _ _ (by have := HHX.out.size; rw [World.size_alloc] at this; omega) (HCX.out.later ((Later.rfl' _).alloc _)) (box_alloc _ _ _)).mono ?_; rintro e w2 ⟨⟨s, hs, rfl⟩, hcu, hch⟩
    have HC := Lib.hid hcu; have HH := Lib.hid ((HHX.out.trans (((Later.rfl' _).alloc _).chg _)).trans hch); have HM := Lib.hid (lfList_small s hs)
    clear hcu hch hs HCX HHX
    have hR := box_onlyX HH.out hlt
    obtain ⟨r0, r1, r2, r3, f0, f1, f2, f3⟩ := box_four hR
    have hz := hR.lt
    clear hR
    go_wp2_with fail
    exact bodyPost_ret (v := .agg #[.int .i64 2, .int .i64 0, .string s, .slice none 0 0]) (by simp [results, Try.results158, go_sem, r0, r1, r2, r3]) rfl (fill_endX rfl (TopE.nil _ _) ⟨by omega, by omega, HM.out⟩ (by rw [costX]; simpa [Ex.costs] using HM.out) HC.out (fresh_only HH.out) hlt [.int .i64 2, .int .i64 0, .string s, .slice none 0 0])
  · go_wp2_with fail
    refine (drawBelow 6 g (by omega) (by omega) _ HCX.out).mono ?_; rintro e w2 ⟨⟨x, hx, rfl⟩, hcu, hch⟩
    have HC2 := Lib.hid hcu; have HH2 := Lib.hid (HHX.out.trans hch)
    clear hcu hch HCX HHX
    go_wp2_with fail
    refine (specNumX (x : Int) _).mono ?_; rintro e w3 ⟨rfl, hb⟩
    have HC := Lib.hid (HC2.out.later hb); have HH := Lib.hid (HH2.out.trans (hb.chg _))
    clear hb HC2 HH2
    have hR := box_onlyX HH.out hlt
    obtain ⟨r0, r1, r2, r3, f0, f1, f2, f3⟩ := box_four hR
    have hz := hR.lt
    clear hR
    go_wp2_with fail
    exact bodyPost_ret (v := .agg #[.int .i64 1, .int .i64 (x : Int), .string ⟨#[]⟩, .slice none 0 0]) (by simp [results, Try.results158, go_sem, r0, r1, r2, r3]) rfl (fill_endX rfl (TopE.nil _ _) ⟨by omega, by omega, by decide⟩ (by rw [costX, show (⟨#[]⟩ : ByteArray).size = 0 from rfl]; simp [Ex.costs]) HC.out (fresh_only HH.out) hlt [.int .i64 1, .int .i64 (x : Int), .string ⟨#[]⟩, .slice none 0 0])
  · go_wp2_with fail
    refine (drawBelow 6 g (by omega) (by omega) _ HCX.out).mono ?_; rintro e w2 ⟨⟨x, hx, rfl⟩, hcu, hch⟩
    have HC2 := Lib.hid hcu; have HH2 := Lib.hid (HHX.out.trans hch)
    clear hcu hch HCX HHX
    go_wp2_with fail
    refine (specNumX (x : Int) _).mono ?_; rintro e w3 ⟨rfl, hb⟩
    have HC := Lib.hid (HC2.out.later hb); have HH := Lib.hid (HH2.out.trans (hb.chg _))
    clear hb HC2 HH2
    have hR := box_onlyX HH.out hlt
    obtain ⟨r0, r1, r2, r3, f0, f1, f2, f3⟩ := box_four hR
    have hz := hR.lt
    clear hR
    go_wp2_with fail
    exact bodyPost_ret (v := .agg #[.int .i64 1, .int .i64 (x : Int), .string ⟨#[]⟩, .slice none 0 0]) (by simp [results, Try.results158, go_sem, r0, r1, r2, r3]) rfl (fill_endX rfl (TopE.nil _ _) ⟨by omega, by omega, by decide⟩ (by rw [costX, show (⟨#[]⟩ : ByteArray).size = 0 from rfl]; simp [Ex.costs]) HC.out (fresh_only HH.out) hlt [.int .i64 1, .int .i64 (x : Int), .string ⟨#[]⟩, .slice none 0 0])
  · go_wp2_with fail
    refine (drawPickN g xs _ _ HCX.out (HN.out _ HHX.out)).mono ?_; rintro e w2 ⟨⟨s, hs, rfl⟩, hcu, hch⟩
    have HC2 := Lib.hid hcu; have HH2 := Lib.hid (HHX.out.trans hch); have HM := Lib.hid hs
    clear hcu hch hs HCX HHX
    go_wp2_with fail
    refine (specNameX s _).mono ?_; rintro e w3 ⟨rfl, hb⟩
    have HC := Lib.hid (HC2.out.later hb); have HH := Lib.hid (HH2.out.trans (hb.chg _))
    clear hb HC2 HH2
    have hR := box_onlyX HH.out hlt
    obtain ⟨r0, r1, r2, r3, f0, f1, f2, f3⟩ := box_four hR
    have hz := hR.lt
    clear hR
    go_wp2_with fail
    exact bodyPost_ret (v := .agg #[.int .i64 3, .int .i64 0, .string s, .slice none 0 0]) (by simp [results, Try.results158, go_sem, r0, r1, r2, r3]) rfl (fill_endX rfl (TopE.nil _ _) ⟨by omega, by omega, HM.out⟩ (by rw [costX]; simpa [Ex.costs] using HM.out) HC.out (fresh_only HH.out) hlt [.int .i64 3, .int .i64 0, .string s, .slice none 0 0])
  · go_wp2_with fail
    refine (drawPickN g xs _ _ HCX.out (HN.out _ HHX.out)).mono ?_; rintro e w2 ⟨⟨s, hs, rfl⟩, hcu, hch⟩
    have HC2 := Lib.hid hcu; have HH2 := Lib.hid (HHX.out.trans hch); have HM := Lib.hid hs
    clear hcu hch hs HCX HHX
    go_wp2_with fail
    refine (specNameX s _).mono ?_; rintro e w3 ⟨rfl, hb⟩
    have HC := Lib.hid (HC2.out.later hb); have HH := Lib.hid (HH2.out.trans (hb.chg _))
    clear hb HC2 HH2
    have hR := box_onlyX HH.out hlt
    obtain ⟨r0, r1, r2, r3, f0, f1, f2, f3⟩ := box_four hR
    have hz := hR.lt
    clear hR
    go_wp2_with fail
    exact bodyPost_ret (v := .agg #[.int .i64 3, .int .i64 0, .string s, .slice none 0 0]) (by simp [results, Try.results158, go_sem, r0, r1, r2, r3]) rfl (fill_endX rfl (TopE.nil _ _) ⟨by omega, by omega, HM.out⟩ (by rw [costX]; simpa [Ex.costs] using HM.out) HC.out (fresh_only HH.out) hlt [.int .i64 3, .int .i64 0, .string s, .slice none 0 0])


set_option maxHeartbeats 2000000 in
theorem drawColumn (g : Nat) (W : World) (hc : CurAt W g) : Calls Try.prog 214 #[.pointer (some ⟨g, 0, none⟩)] W fun r w' => DrawnX 100 g W w' r := by
  have hlt := hc.lt
  have HC0 := Lib.hid (hc.later ((Later.rfl' W).alloc (.cells #[.int .i64 0, .int .i64 0, .string ⟨#[]⟩, .slice none 0 0] 67)))
  have HCP := Lib.hid (fun w b (hb : b ≠ g) (hcu : CurAt w g) (B : Box w b (colList.map .string)) => drawPick g b colList hb (by decide) (by decide) w hcu B)
  have HBX : Hid (Box ((W.alloc (.cells #[.int .i64 0, .int .i64 0, .string ⟨#[]⟩, .slice none 0 0] 67)).alloc (.cells #[.string ⟨#[97]⟩, .string ⟨#[97]⟩, .string ⟨#[98]⟩, .string ⟨#[99]⟩, .string ⟨#[120]⟩] 9)) (W.heap.size + 1) (colList.map .string)) := by
    have h := box_alloc (W.alloc (.cells #[.int .i64 0, .int .i64 0, .string ⟨#[]⟩, .slice none 0 0] 67)) #[.string ⟨#[97]⟩, .string ⟨#[97]⟩, .string ⟨#[98]⟩, .string ⟨#[99]⟩, .string ⟨#[120]⟩] 9
    rw [World.size_alloc] at h
    exact h
  clear hc
  go_enter Try.func214, Try.ntmps214
  go_wp2_with fail
  refine (HCP.out _ _ (by omega) (HC0.out.later ((Later.rfl' _).alloc _)) HBX.out).mono ?_; rintro e w1 ⟨⟨s, hs, rfl⟩, hcu, hch⟩
  have HC := Lib.hid hcu; have HH : Hid (Chg (onlyB g) (W.alloc (.cells #[.int .i64 0, .int .i64 0, .string ⟨#[]⟩, .slice none 0 0] 67)) w1) := (((Later.rfl' _).alloc _).chg _).trans hch
  have HM := Lib.hid (colList_small s hs)
  clear hcu hch hs
  have hR := box_onlyX HH.out hlt
  obtain ⟨r0, r1, r2, r3, f0, f1, f2, f3⟩ := box_four hR
  have hz := hR.lt
  clear hR
  go_wp2_with fail
  exact bodyPost_ret (v := .agg #[.int .i64 2, .int .i64 0, .string s, .slice none 0 0]) (by simp [results, Try.results214, go_sem, r0, r1, r2, r3]) rfl (fill_endX rfl (TopE.nil _ _) ⟨by omega, by omega, HM.out⟩ (by rw [costX]; simpa [Ex.costs] using HM.out) HC.out (fresh_only HH.out) hlt [.int .i64 2, .int .i64 0, .string s, .slice none 0 0])

end Go.Proofs.Ytghemlokpfipoaa
