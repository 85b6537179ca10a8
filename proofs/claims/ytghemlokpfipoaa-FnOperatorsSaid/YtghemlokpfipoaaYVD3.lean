/-
  Draws of values: l3Draw: the walk.
-/
import Derived.Test.YtghemlokpfipoaaYVD2
namespace Go.Proofs.Ytghemlokpfipoaa
open Go.ChangeShapes Go.WideShapes Go.ChangeAt Go.RowKit
set_option linter.unusedVariables false
set_option linter.unusedSimpArgs false
set_option maxRecDepth 100000

theorem drawList3 (g : Nat) (W : World) (hc : CurAt W g) : Calls Try.prog 135 #[.pointer (some ⟨g, 0, none⟩), .int .i64 3] W fun r w' => DrawnR 51784 g W w' r := drawList 2 (by omega) g W hc

set_option maxHeartbeats 8000000 in
theorem drawValue (g : Nat) (W : World) (hc : CurAt W g) : Calls Try.prog 166 #[.pointer (some ⟨g, 0, none⟩)] W fun r w' => DrawnR 60000 g W w' r := by
  have hlt := hc.lt
  have HC0 := Lib.hid (hc.later ((Later.rfl' W).alloc (.cells #[.int .i64 0, .int .i64 0, .int .i64 0, .string ⟨#[]⟩, .slice none 0 0, .slice none 0 0, .slice none 0 0] 28)))
  clear hc
  go_enter Try.func166, Try.ntmps166
  go_wp2_with fail
  refine (drawBelow 10 g (by omega) (by omega) _ HC0.out).mono ?_; rintro e w1 ⟨⟨m, hm, rfl⟩, hcu, hch⟩
  have HCX := Lib.hid hcu; have HHX := Lib.hid hch
  clear hcu hch HC0
  have hm10 : m = 0 ∨ m = 1 ∨ m = 2 ∨ m = 3 ∨ m = 4 ∨ m = 5 ∨ m = 6 ∨ m = 7 ∨ m = 8 ∨ m = 9 := by omega
  clear hm
  rcases hm10 with rfl | rfl | rfl | rfl | rfl | rfl | rfl | rfl | rfl | rfl
  · go_wp2_with fail
    refine (drawNum g _ HCX.out).mono ?_; rintro e w2 ⟨⟨x, hx, rfl⟩, hcu, hch⟩
    have HX := Lib.hid hx; have HC2 := Lib.hid hcu; have HH2 := Lib.hid (HHX.out.trans hch)
    clear hx hcu hch HCX HHX
    go_wp2_with fail
    refine (specNumberValue x _).mono ?_; rintro e w3 ⟨rfl, hb3⟩
    unfold leafA
    have hch3 : Chg (onlyB g) (W.alloc (.cells #[.int .i64 0, .int .i64 0, .int .i64 0, .string ⟨#[]⟩, .slice none 0 0, .slice none 0 0, .slice none 0 0] 28)) w3 := HH2.out.trans (hb3.chg _)
    have hR := box_only hch3 hlt
    have rc0 := hR.cell (j := 0) rfl
    have y0 := hR.free 0
    have rc1 := hR.cell (j := 1) rfl
    have y1 := hR.free 1
    have rc2 := hR.cell (j := 2) rfl
    have y2 := hR.free 2
    have rc3 := hR.cell (j := 3) rfl
    have y3 := hR.free 3
    have rc4 := hR.cell (j := 4) rfl
    have y4 := hR.free 4
    have rc5 := hR.cell (j := 5) rfl
    have y5 := hR.free 5
    have rc6 := hR.cell (j := 6) rfl
    have y6 := hR.free 6
    have wz := hR.lt
    have HC := Lib.hid (HC2.out.later hb3); have HH := Lib.hid hch3
    clear hR hch3 hb3 HC2 HH2
    go_wp2_with fail
    exact bodyPost_ret (v := .agg #[.int .i64 1, .int .i64 x, .int .i64 0, .string ⟨#[]⟩, .slice none 0 0, .slice none 0 0, .slice none 0 0]) (by simp [results, Try.results166, go_sem, rc0, rc1, rc2, rc3, rc4, rc5, rc6]) rfl (drawn_wrap rfl (by have := HX.out; unfold SmallD; refine ⟨by omega, by omega, by omega, by decide⟩) (Nat.le_trans (by have := cost_leaf 1 x 0 ⟨#[]⟩; have : (⟨#[]⟩ : ByteArray).size = 0 := rfl; unfold leafD at *; omega) (show 100 ≤ 60000 by decide)) (DrawnT.nils _ _) HC.out HH.out hlt [.int .i64 1, .int .i64 x, .int .i64 0, .string ⟨#[]⟩, .slice none 0 0, .slice none 0 0, .slice none 0 0])
  · go_wp2_with fail
    refine (drawNum g _ HCX.out).mono ?_; rintro e w2 ⟨⟨x, hx, rfl⟩, hcu, hch⟩
    have HX := Lib.hid hx; have HC2 := Lib.hid hcu; have HH2 := Lib.hid (HHX.out.trans hch)
    clear hx hcu hch HCX HHX
    go_wp2_with fail
    refine (specNumberValue x _).mono ?_; rintro e w3 ⟨rfl, hb3⟩
    unfold leafA
    have hch3 : Chg (onlyB g) (W.alloc (.cells #[.int .i64 0, .int .i64 0, .int .i64 0, .string ⟨#[]⟩, .slice none 0 0, .slice none 0 0, .slice none 0 0] 28)) w3 := HH2.out.trans (hb3.chg _)
    have hR := box_only hch3 hlt
    have rc0 := hR.cell (j := 0) rfl
    have y0 := hR.free 0
    have rc1 := hR.cell (j := 1) rfl
    have y1 := hR.free 1
    have rc2 := hR.cell (j := 2) rfl
    have y2 := hR.free 2
    have rc3 := hR.cell (j := 3) rfl
    have y3 := hR.free 3
    have rc4 := hR.cell (j := 4) rfl
    have y4 := hR.free 4
    have rc5 := hR.cell (j := 5) rfl
    have y5 := hR.free 5
    have rc6 := hR.cell (j := 6) rfl
    have y6 := hR.free 6
    have wz := hR.lt
    have HC := Lib.hid (HC2.out.later hb3); have HH := Lib.hid hch3
    clear hR hch3 hb3 HC2 HH2
    go_wp2_with fail
    exact bodyPost_ret (v := .agg #[.int .i64 1, .int .i64 x, .int .i64 0, .string ⟨#[]⟩, .slice none 0 0, .slice none 0 0, .slice none 0 0]) (by simp [results, Try.results166, go_sem, rc0, rc1, rc2, rc3, rc4, rc5, rc6]) rfl (drawn_wrap rfl (by have := HX.out; unfold SmallD; refine ⟨by omega, by omega, by omega, by decide⟩) (Nat.le_trans (by have := cost_leaf 1 x 0 ⟨#[]⟩; have : (⟨#[]⟩ : ByteArray).size = 0 := rfl; unfold leafD at *; omega) (show 100 ≤ 60000 by decide)) (DrawnT.nils _ _) HC.out HH.out hlt [.int .i64 1, .int .i64 x, .int .i64 0, .string ⟨#[]⟩, .slice none 0 0, .slice none 0 0, .slice none 0 0])
  · go_wp2_with fail
    refine (drawNum g _ HCX.out).mono ?_; rintro e w2 ⟨⟨x, hx, rfl⟩, hcu, hch⟩
    have HX := Lib.hid hx; have HC2 := Lib.hid hcu; have HH2 := Lib.hid (HHX.out.trans hch)
    clear hx hcu hch HCX HHX
    go_wp2_with fail
    refine (specNumberValue x _).mono ?_; rintro e w3 ⟨rfl, hb3⟩
    unfold leafA
    have hch3 : Chg (onlyB g) (W.alloc (.cells #[.int .i64 0, .int .i64 0, .int .i64 0, .string ⟨#[]⟩, .slice none 0 0, .slice none 0 0, .slice none 0 0] 28)) w3 := HH2.out.trans (hb3.chg _)
    have hR := box_only hch3 hlt
    have rc0 := hR.cell (j := 0) rfl
    have y0 := hR.free 0
    have rc1 := hR.cell (j := 1) rfl
    have y1 := hR.free 1
    have rc2 := hR.cell (j := 2) rfl
    have y2 := hR.free 2
    have rc3 := hR.cell (j := 3) rfl
    have y3 := hR.free 3
    have rc4 := hR.cell (j := 4) rfl
    have y4 := hR.free 4
    have rc5 := hR.cell (j := 5) rfl
    have y5 := hR.free 5
    have rc6 := hR.cell (j := 6) rfl
    have y6 := hR.free 6
    have wz := hR.lt
    have HC := Lib.hid (HC2.out.later hb3); have HH := Lib.hid hch3
    clear hR hch3 hb3 HC2 HH2
    go_wp2_with fail
    exact bodyPost_ret (v := .agg #[.int .i64 1, .int .i64 x, .int .i64 0, .string ⟨#[]⟩, .slice none 0 0, .slice none 0 0, .slice none 0 0]) (by simp [results, Try.results166, go_sem, rc0, rc1, rc2, rc3, rc4, rc5, rc6]) rfl (drawn_wrap rfl (by have := HX.out; unfold SmallD; refine ⟨by omega, by omega, by omega, by decide⟩) (Nat.le_trans (by have := cost_leaf 1 x 0 ⟨#[]⟩; have : (⟨#[]⟩ : ByteArray).size = 0 := rfl; unfold leafD at *; omega) (show 100 ≤ 60000 by decide)) (DrawnT.nils _ _) HC.out HH.out hlt [.int .i64 1, .int .i64 x, .int .i64 0, .string ⟨#[]⟩, .slice none 0 0, .slice none 0 0, .slice none 0 0])
  · go_wp2_with fail
    refine (drawText g _ HCX.out).mono ?_; rintro e w2 ⟨⟨x, hx, rfl⟩, hcu, hch⟩
    have HX := Lib.hid hx; have HC2 := Lib.hid hcu; have HH2 := Lib.hid (HHX.out.trans hch)
    clear hx hcu hch HCX HHX
    go_wp2_with fail
    refine (specTextValue x _).mono ?_; rintro e w3 ⟨rfl, hb3⟩
    unfold leafA
    have hch3 : Chg (onlyB g) (W.alloc (.cells #[.int .i64 0, .int .i64 0, .int .i64 0, .string ⟨#[]⟩, .slice none 0 0, .slice none 0 0, .slice none 0 0] 28)) w3 := HH2.out.trans (hb3.chg _)
    have hR := box_only hch3 hlt
    have rc0 := hR.cell (j := 0) rfl
    have y0 := hR.free 0
    have rc1 := hR.cell (j := 1) rfl
    have y1 := hR.free 1
    have rc2 := hR.cell (j := 2) rfl
    have y2 := hR.free 2
    have rc3 := hR.cell (j := 3) rfl
    have y3 := hR.free 3
    have rc4 := hR.cell (j := 4) rfl
    have y4 := hR.free 4
    have rc5 := hR.cell (j := 5) rfl
    have y5 := hR.free 5
    have rc6 := hR.cell (j := 6) rfl
    have y6 := hR.free 6
    have wz := hR.lt
    have HC := Lib.hid (HC2.out.later hb3); have HH := Lib.hid hch3
    clear hR hch3 hb3 HC2 HH2
    go_wp2_with fail
    exact bodyPost_ret (v := .agg #[.int .i64 2, .int .i64 0, .int .i64 0, .string x, .slice none 0 0, .slice none 0 0, .slice none 0 0]) (by simp [results, Try.results166, go_sem, rc0, rc1, rc2, rc3, rc4, rc5, rc6]) rfl (drawn_wrap rfl (by have := HX.out; unfold SmallD; omega) (Nat.le_trans (by have := cost_leaf 2 0 0 x; have := HX.out; unfold leafD at *; omega) (show 100 ≤ 60000 by decide)) (DrawnT.nils _ _) HC.out HH.out hlt [.int .i64 2, .int .i64 0, .int .i64 0, .string x, .slice none 0 0, .slice none 0 0, .slice none 0 0])
  · go_wp2_with fail
    refine (drawList3 g _ HCX.out).mono ?_; rintro e w3 ⟨⟨k, n, s, t, l, cl, rs, v4, v5, v6, rfl, hsm, hcost, hT0⟩, hcu, hch0⟩
    have hch : Chg (onlyB g) (W.alloc (.cells #[.int .i64 0, .int .i64 0, .int .i64 0, .string ⟨#[]⟩, .slice none 0 0, .slice none 0 0, .slice none 0 0] 28)) w3 := HHX.out.trans hch0
    have hT : DrawnT (W.alloc (.cells #[.int .i64 0, .int .i64 0, .int .i64 0, .string ⟨#[]⟩, .slice none 0 0, .slice none 0 0, .slice none 0 0] 28)).heap.size w3 l cl rs v4 v5 v6 := hT0.base HHX.out.size
    obtain ⟨A4, c4, A5, c5, A6, c6, rfl, rfl, rfl⟩ := hT.shape
    have hR := box_only hch hlt
    have rc0 := hR.cell (j := 0) rfl
    have y0 := hR.free 0
    have rc1 := hR.cell (j := 1) rfl
    have y1 := hR.free 1
    have rc2 := hR.cell (j := 2) rfl
    have y2 := hR.free 2
    have rc3 := hR.cell (j := 3) rfl
    have y3 := hR.free 3
    have rc4 := hR.cell (j := 4) rfl
    have y4 := hR.free 4
    have rc5 := hR.cell (j := 5) rfl
    have y5 := hR.free 5
    have rc6 := hR.cell (j := 6) rfl
    have y6 := hR.free 6
    have wz := hR.lt
    have HS := Lib.hid hsm; have HCO := Lib.hid hcost; have HT := Lib.hid hT; have HC := Lib.hid hcu; have HH := Lib.hid hch
    clear hR hsm hcost hT hT0 hcu hch hch0 HHX HCX
    go_wp2_with fail
    exact bodyPost_ret (v := .agg #[.int .i64 k, .int .i64 n, .int .i64 s, .string t, .slice A4 l.length c4, .slice A5 cl.length c5, .slice A6 rs.length c6]) (by simp [results, Try.results166, go_sem, rc0, rc1, rc2, rc3, rc4, rc5, rc6]) rfl (drawn_wrap rfl HS.out (Nat.le_trans HCO.out (by decide)) HT.out HC.out HH.out hlt [.int .i64 k, .int .i64 n, .int .i64 s, .string t, .slice A4 l.length c4, .slice A5 cl.length c5, .slice A6 rs.length c6])
  · go_wp2_with fail
    refine (drawNumbers g _ HCX.out).mono ?_; rintro e w3 ⟨⟨k, n, s, t, l, cl, rs, v4, v5, v6, rfl, hsm, hcost, hT0⟩, hcu, hch0⟩
    have hch : Chg (onlyB g) (W.alloc (.cells #[.int .i64 0, .int .i64 0, .int .i64 0, .string ⟨#[]⟩, .slice none 0 0, .slice none 0 0, .slice none 0 0] 28)) w3 := HHX.out.trans hch0
    have hT : DrawnT (W.alloc (.cells #[.int .i64 0, .int .i64 0, .int .i64 0, .string ⟨#[]⟩, .slice none 0 0, .slice none 0 0, .slice none 0 0] 28)).heap.size w3 l cl rs v4 v5 v6 := hT0.base HHX.out.size
    obtain ⟨A4, c4, A5, c5, A6, c6, rfl, rfl, rfl⟩ := hT.shape
    have hR := box_only hch hlt
    have rc0 := hR.cell (j := 0) rfl
    have y0 := hR.free 0
    have rc1 := hR.cell (j := 1) rfl
    have y1 := hR.free 1
    have rc2 := hR.cell (j := 2) rfl
    have y2 := hR.free 2
    have rc3 := hR.cell (j := 3) rfl
    have y3 := hR.free 3
    have rc4 := hR.cell (j := 4) rfl
    have y4 := hR.free 4
    have rc5 := hR.cell (j := 5) rfl
    have y5 := hR.free 5
    have rc6 := hR.cell (j := 6) rfl
    have y6 := hR.free 6
    have wz := hR.lt
    have HS := Lib.hid hsm; have HCO := Lib.hid hcost; have HT := Lib.hid hT; have HC := Lib.hid hcu; have HH := Lib.hid hch
    clear hR hsm hcost hT hT0 hcu hch hch0 HHX HCX
    go_wp2_with fail
    exact bodyPost_ret (v := .agg #[.int .i64 k, .int .i64 n, .int .i64 s, .string t, .slice A4 l.length c4, .slice A5 cl.length c5, .slice A6 rs.length c6]) (by simp [results, Try.results166, go_sem, rc0, rc1, rc2, rc3, rc4, rc5, rc6]) rfl (drawn_wrap rfl HS.out (Nat.le_trans HCO.out (by decide)) HT.out HC.out HH.out hlt [.int .i64 k, .int .i64 n, .int .i64 s, .string t, .slice A4 l.length c4, .slice A5 cl.length c5, .slice A6 rs.length c6])
  · go_wp2_with fail
    refine (drawNum g _ HCX.out).mono ?_; rintro e w2 ⟨⟨x, hx, rfl⟩, hcu, hch⟩
    have HX := Lib.hid hx; have HCA := Lib.hid hcu; have HHA := Lib.hid (HHX.out.trans hch)
    clear hx hcu hch HCX HHX
    go_wp2_with fail
    refine (drawNum g _ HCA.out).mono ?_; rintro e w2' ⟨⟨y, hy, rfl⟩, hcu, hch⟩
    have HY := Lib.hid hy; have HC2 := Lib.hid hcu; have HH2 := Lib.hid (HHA.out.trans hch)
    clear hy hcu hch HCA HHA
    go_wp2_with fail
    refine (specStreamValue x y _).mono ?_; rintro e w3 ⟨rfl, hb3⟩
    unfold leafA
    have hch3 : Chg (onlyB g) (W.alloc (.cells #[.int .i64 0, .int .i64 0, .int .i64 0, .string ⟨#[]⟩, .slice none 0 0, .slice none 0 0, .slice none 0 0] 28)) w3 := HH2.out.trans (hb3.chg _)
    have hR := box_only hch3 hlt
    have rc0 := hR.cell (j := 0) rfl
    have y0 := hR.free 0
    have rc1 := hR.cell (j := 1) rfl
    have y1 := hR.free 1
    have rc2 := hR.cell (j := 2) rfl
    have y2 := hR.free 2
    have rc3 := hR.cell (j := 3) rfl
    have y3 := hR.free 3
    have rc4 := hR.cell (j := 4) rfl
    have y4 := hR.free 4
    have rc5 := hR.cell (j := 5) rfl
    have y5 := hR.free 5
    have rc6 := hR.cell (j := 6) rfl
    have y6 := hR.free 6
    have wz := hR.lt
    have HC := Lib.hid (HC2.out.later hb3); have HH := Lib.hid hch3
    clear hR hch3 hb3 HC2 HH2
    go_wp2_with fail
    exact bodyPost_ret (v := .agg #[.int .i64 4, .int .i64 x, .int .i64 y, .string ⟨#[]⟩, .slice none 0 0, .slice none 0 0, .slice none 0 0]) (by simp [results, Try.results166, go_sem, rc0, rc1, rc2, rc3, rc4, rc5, rc6]) rfl (drawn_wrap rfl (by have := HX.out; have := HY.out; unfold SmallD; refine ⟨by omega, by omega, by omega, by decide⟩) (Nat.le_trans (by have := cost_leaf 4 x y ⟨#[]⟩; have : (⟨#[]⟩ : ByteArray).size = 0 := rfl; unfold leafD at *; omega) (show 100 ≤ 60000 by decide)) (DrawnT.nils _ _) HC.out HH.out hlt [.int .i64 4, .int .i64 x, .int .i64 y, .string ⟨#[]⟩, .slice none 0 0, .slice none 0 0, .slice none 0 0])
  · go_wp2_with fail
    refine (drawBelow 8 g (by omega) (by omega) _ HCX.out).mono ?_; rintro e w2 ⟨⟨x, hx, rfl⟩, hcu, hch⟩
    have HC2 := Lib.hid hcu; have HH2 := Lib.hid (HHX.out.trans hch)
    clear hcu hch HCX HHX
    go_wp2_with fail
    refine (specErrorValue (1 + (x : Int)) _).mono ?_; rintro e w3 ⟨rfl, hb3⟩
    unfold leafA
    have hch3 : Chg (onlyB g) (W.alloc (.cells #[.int .i64 0, .int .i64 0, .int .i64 0, .string ⟨#[]⟩, .slice none 0 0, .slice none 0 0, .slice none 0 0] 28)) w3 := HH2.out.trans (hb3.chg _)
    have hR := box_only hch3 hlt
    have rc0 := hR.cell (j := 0) rfl
    have y0 := hR.free 0
    have rc1 := hR.cell (j := 1) rfl
    have y1 := hR.free 1
    have rc2 := hR.cell (j := 2) rfl
    have y2 := hR.free 2
    have rc3 := hR.cell (j := 3) rfl
    have y3 := hR.free 3
    have rc4 := hR.cell (j := 4) rfl
    have y4 := hR.free 4
    have rc5 := hR.cell (j := 5) rfl
    have y5 := hR.free 5
    have rc6 := hR.cell (j := 6) rfl
    have y6 := hR.free 6
    have wz := hR.lt
    have HC := Lib.hid (HC2.out.later hb3); have HH := Lib.hid hch3
    clear hR hch3 hb3 HC2 HH2
    go_wp2_with fail
    exact bodyPost_ret (v := .agg #[.int .i64 6, .int .i64 (1 + (x : Int)), .int .i64 0, .string ⟨#[]⟩, .slice none 0 0, .slice none 0 0, .slice none 0 0]) (by simp [results, Try.results166, go_sem, rc0, rc1, rc2, rc3, rc4, rc5, rc6]) rfl (drawn_wrap rfl (by unfold SmallD; refine ⟨by omega, by omega, by omega, by decide⟩) (Nat.le_trans (by have := cost_leaf 6 (1 + (x : Int)) 0 ⟨#[]⟩; have : (⟨#[]⟩ : ByteArray).size = 0 := rfl; unfold leafD at *; omega) (show 100 ≤ 60000 by decide)) (DrawnT.nils _ _) HC.out HH.out hlt [.int .i64 6, .int .i64 (1 + (x : Int)), .int .i64 0, .string ⟨#[]⟩, .slice none 0 0, .slice none 0 0, .slice none 0 0])
  · go_wp2_with fail
    refine (drawTable g _ HCX.out).mono ?_; rintro e w3 ⟨⟨k, n, s, t, l, cl, rs, v4, v5, v6, rfl, hsm, hcost, hT0⟩, hcu, hch0⟩
    have hch : Chg (onlyB g) (W.alloc (.cells #[.int .i64 0, .int .i64 0, .int .i64 0, .string ⟨#[]⟩, .slice none 0 0, .slice none 0 0, .slice none 0 0] 28)) w3 := HHX.out.trans hch0
    have hT : DrawnT (W.alloc (.cells #[.int .i64 0, .int .i64 0, .int .i64 0, .string ⟨#[]⟩, .slice none 0 0, .slice none 0 0, .slice none 0 0] 28)).heap.size w3 l cl rs v4 v5 v6 := hT0.base HHX.out.size
    obtain ⟨A4, c4, A5, c5, A6, c6, rfl, rfl, rfl⟩ := hT.shape
    have hR := box_only hch hlt
    have rc0 := hR.cell (j := 0) rfl
    have y0 := hR.free 0
    have rc1 := hR.cell (j := 1) rfl
    have y1 := hR.free 1
    have rc2 := hR.cell (j := 2) rfl
    have y2 := hR.free 2
    have rc3 := hR.cell (j := 3) rfl
    have y3 := hR.free 3
    have rc4 := hR.cell (j := 4) rfl
    have y4 := hR.free 4
    have rc5 := hR.cell (j := 5) rfl
    have y5 := hR.free 5
    have rc6 := hR.cell (j := 6) rfl
    have y6 := hR.free 6
    have wz := hR.lt
    have HS := Lib.hid hsm; have HCO := Lib.hid hcost; have HT := Lib.hid hT; have HC := Lib.hid hcu; have HH := Lib.hid hch
    clear hR hsm hcost hT hT0 hcu hch hch0 HHX HCX
    go_wp2_with fail
    exact bodyPost_ret (v := .agg #[.int .i64 k, .int .i64 n, .int .i64 s, .string t, .slice A4 l.length c4, .slice A5 cl.length c5, .slice A6 rs.length c6]) (by simp [results, Try.results166, go_sem, rc0, rc1, rc2, rc3, rc4, rc5, rc6]) rfl (drawn_wrap rfl HS.out (Nat.le_trans HCO.out (by decide)) HT.out HC.out HH.out hlt [.int .i64 k, .int .i64 n, .int .i64 s, .string t, .slice A4 l.length c4, .slice A5 cl.length c5, .slice A6 rs.length c6])
  · go_wp2_with fail
    refine (drawTable g _ HCX.out).mono ?_; rintro e w3 ⟨⟨k, n, s, t, l, cl, rs, v4, v5, v6, rfl, hsm, hcost, hT0⟩, hcu, hch0⟩
    have hch : Chg (onlyB g) (W.alloc (.cells #[.int .i64 0, .int .i64 0, .int .i64 0, .string ⟨#[]⟩, .slice none 0 0, .slice none 0 0, .slice none 0 0] 28)) w3 := HHX.out.trans hch0
    have hT : DrawnT (W.alloc (.cells #[.int .i64 0, .int .i64 0, .int .i64 0, .string ⟨#[]⟩, .slice none 0 0, .slice none 0 0, .slice none 0 0] 28)).heap.size w3 l cl rs v4 v5 v6 := hT0.base HHX.out.size
    obtain ⟨A4, c4, A5, c5, A6, c6, rfl, rfl, rfl⟩ := hT.shape
    have hR := box_only hch hlt
    have rc0 := hR.cell (j := 0) rfl
    have y0 := hR.free 0
    have rc1 := hR.cell (j := 1) rfl
    have y1 := hR.free 1
    have rc2 := hR.cell (j := 2) rfl
    have y2 := hR.free 2
    have rc3 := hR.cell (j := 3) rfl
    have y3 := hR.free 3
    have rc4 := hR.cell (j := 4) rfl
    have y4 := hR.free 4
    have rc5 := hR.cell (j := 5) rfl
    have y5 := hR.free 5
    have rc6 := hR.cell (j := 6) rfl
    have y6 := hR.free 6
    have wz := hR.lt
    have HS := Lib.hid hsm; have HCO := Lib.hid hcost; have HT := Lib.hid hT; have HC := Lib.hid hcu; have HH := Lib.hid hch
    clear hR hsm hcost hT hT0 hcu hch hch0 HHX HCX
    go_wp2_with fail
    exact bodyPost_ret (v := .agg #[.int .i64 k, .int .i64 n, .int .i64 s, .string t, .slice A4 l.length c4, .slice A5 cl.length c5, .slice A6 rs.length c6]) (by simp [results, Try.results166, go_sem, rc0, rc1, rc2, rc3, rc4, rc5, rc6]) rfl (drawn_wrap rfl HS.out (Nat.le_trans HCO.out (by decide)) HT.out HC.out HH.out hlt [.int .i64 k, .int .i64 n, .int .i64 s, .string t, .slice A4 l.length c4, .slice A5 cl.length c5, .slice A6 rs.length c6])

end Go.Proofs.Ytghemlokpfipoaa
