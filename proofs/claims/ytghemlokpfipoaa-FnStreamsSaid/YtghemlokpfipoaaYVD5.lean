/-
  Draws of values: l6Draw, l6Count; DrawSumOf: the walks.
-/
import Derived.Test.YtghemlokpfipoaaYVD4
namespace Go.Proofs.Ytghemlokpfipoaa
open Go.ChangeShapes Go.WideShapes Go.ChangeAt Go.RowKit
set_option linter.unusedVariables false
set_option linter.unusedSimpArgs false
set_option maxRecDepth 100000

/-- A drawn value, as it lies. -/
def DrawOut (M : Nat) (w' : World) (r : Ending) : Prop := ∃ d z0 z1 z2 z3 E1 u1 m1 E2 u2 m2 E3 u3 m3, r = .returned (.agg #[.int .i64 z0, .int .i64 z1, .int .i64 z2, .string z3, .slice E1 u1 m1, .slice E2 u2 m2, .slice E3 u3 m3]) ∧
  Ats w' anyB (encV d) [.int .i64 z0, .int .i64 z1, .int .i64 z2, .string z3, .slice E1 u1 m1, .slice E2 u2 m2, .slice E3 u3 m3] ∧ d.cost ≤ M

set_option maxHeartbeats 8000000 in
theorem drawSix (g : Nat) (W : World) (hc : CurAt W g) : Calls Try.prog 71 #[.pointer (some ⟨g, 0, none⟩)] W fun r w' => DrawnV 121000 g W w' r := by
  have hlt := hc.lt
  have HC0 := Lib.hid (hc.later ((Later.rfl' W).alloc (.cells #[.int .i64 0, .int .i64 0, .int .i64 0, .string ⟨#[]⟩, .slice none 0 0, .slice none 0 0, .slice none 0 0] 28)))
  clear hc
  go_enter Try.func71, Try.ntmps71
  go_wp2_with fail
  refine (drawBelow 5 g (by omega) (by omega) _ HC0.out).mono ?_; rintro e w1 ⟨⟨m, hm, rfl⟩, hcu, hch⟩
  have HCX := Lib.hid hcu; have HHX := Lib.hid hch
  clear hcu hch HC0
  have hm5 : m = 0 ∨ m = 1 ∨ m = 2 ∨ m = 3 ∨ m = 4 := by omega
  clear hm
  rcases hm5 with rfl | rfl | rfl | rfl | rfl
  · go_wp2_with fail
    refine (drawNumbers g _ HCX.out).mono ?_; rintro e w3 ⟨⟨k, n, s, t, l, cl, rs, v4, v5, v6, rfl, hsm, hcost, hT0⟩, hcu, hch0⟩
    have hch : Chg (onlyB g) (W.alloc (.cells #[.int .i64 0, .int .i64 0, .int .i64 0, .string ⟨#[]⟩, .slice none 0 0, .slice none 0 0, .slice none 0 0] 28)) w3 := HHX.out.trans hch0
    have hT : DrawnT (W.alloc (.cells #[.int .i64 0, .int .i64 0, .int .i64 0, .string ⟨#[]⟩, .slice none 0 0, .slice none 0 0, .slice none 0 0] 28)).heap.size w3 l cl rs v4 v5 v6 := hT0.base HHX.out.size
    obtain ⟨A4, c4, A5, c5, A6, c6, rfl, rfl, rfl⟩ := hT.shape
    have hR := box_only hch hlt
    have rc0 := hR.cell (j := 0) rfl
    have y0 := hR.free 0
    have rc1 := hR.cell (j := 1) rfl
    have y1 := hR.free 1
    have rc2 := hR.cell (j := 2) rfl
    have y2 := hR.free 2
    have rc3 := hR.cell (j := 3) rfl
    have y3 := hR.free 3
    have rc4 := hR.cell (j := 4) rfl
    have y4 := hR.free 4
    have rc5 := hR.cell (j := 5) rfl
    have y5 := hR.free 5
    have rc6 := hR.cell (j := 6) rfl
    have y6 := hR.free 6
    have wz := hR.lt
    have HS := Lib.hid hsm; have HCO := Lib.hid hcost; have HT := Lib.hid hT; have HC := Lib.hid hcu; have HH := Lib.hid hch
    clear hR hsm hcost hT hT0 hcu hch hch0 HHX HCX
    go_wp2_with fail
    exact bodyPost_ret (v := .agg #[.int .i64 k, .int .i64 n, .int .i64 s, .string t, .slice A4 l.length c4, .slice A5 cl.length c5, .slice A6 rs.length c6]) (by simp [results, Try.results71, go_sem, rc0, rc1, rc2, rc3, rc4, rc5, rc6]) rfl (DrawnR.v (drawn_wrap rfl HS.out (Nat.le_trans HCO.out (by decide)) HT.out HC.out HH.out hlt [.int .i64 k, .int .i64 n, .int .i64 s, .string t, .slice A4 l.length c4, .slice A5 cl.length c5, .slice A6 rs.length c6]))
  · go_wp2_with fail
    refine (drawList3 g _ HCX.out).mono ?_; rintro e w3 ⟨⟨k, n, s, t, l, cl, rs, v4, v5, v6, rfl, hsm, hcost, hT0⟩, hcu, hch0⟩
    have hch : Chg (onlyB g) (W.alloc (.cells #[.int .i64 0, .int .i64 0, .int .i64 0, .string ⟨#[]⟩, .slice none 0 0, .slice none 0 0, .slice none 0 0] 28)) w3 := HHX.out.trans hch0
    have hT : DrawnT (W.alloc (.cells #[.int .i64 0, .int .i64 0, .int .i64 0, .string ⟨#[]⟩, .slice none 0 0, .slice none 0 0, .slice none 0 0] 28)).heap.size w3 l cl rs v4 v5 v6 := hT0.base HHX.out.size
    obtain ⟨A4, c4, A5, c5, A6, c6, rfl, rfl, rfl⟩ := hT.shape
    have hR := box_only hch hlt
    have rc0 := hR.cell (j := 0) rfl
    have y0 := hR.free 0
    have rc1 := hR.cell (j := 1) rfl
    have y1 := hR.free 1
    have rc2 := hR.cell (j := 2) rfl
    have y2 := hR.free 2
    have rc3 := hR.cell (j := 3) rfl
    have y3 := hR.free 3
    have rc4 := hR.cell (j := 4) rfl
    have y4 := hR.free 4
    have rc5 := hR.cell (j := 5) rfl
    have y5 := hR.free 5
    have rc6 := hR.cell (j := 6) rfl
    have y6 := hR.free 6
    have wz := hR.lt
    have HS := Lib.hid hsm; have HCO := Lib.hid hcost; have HT := Lib.hid hT; have HC := Lib.hid hcu; have HH := Lib.hid hch
    clear hR hsm hcost hT hT0 hcu hch hch0 HHX HCX
    go_wp2_with fail
    exact bodyPost_ret (v := .agg #[.int .i64 k, .int .i64 n, .int .i64 s, .string t, .slice A4 l.length c4, .slice A5 cl.length c5, .slice A6 rs.length c6]) (by simp [results, Try.results71, go_sem, rc0, rc1, rc2, rc3, rc4, rc5, rc6]) rfl (DrawnR.v (drawn_wrap rfl HS.out (Nat.le_trans HCO.out (by decide)) HT.out HC.out HH.out hlt [.int .i64 k, .int .i64 n, .int .i64 s, .string t, .slice A4 l.length c4, .slice A5 cl.length c5, .slice A6 rs.length c6]))
  · go_wp2_with fail
    refine (drawNum g _ HCX.out).mono ?_; rintro e w2 ⟨⟨x, hx, rfl⟩, hcu, hch⟩
    have HX := Lib.hid hx; have HCA := Lib.hid hcu; have HHA := Lib.hid (HHX.out.trans hch)
    clear hx hcu hch HCX HHX
    go_wp2_with fail
    refine (drawNum g _ HCA.out).mono ?_; rintro e w2' ⟨⟨y, hy, rfl⟩, hcu, hch⟩
    have HY := Lib.hid hy; have HC2 := Lib.hid hcu; have HH2 := Lib.hid (HHA.out.trans hch)
    clear hy hcu hch HCA HHA
    go_wp2_with fail
    refine (specStreamValue x y _).mono ?_; rintro e w3 ⟨rfl, hb3⟩
    unfold leafA
    have hch3 : Chg (onlyB g) (W.alloc (.cells #[.int .i64 0, .int .i64 0, .int .i64 0, .string ⟨#[]⟩, .slice none 0 0, .slice none 0 0, .slice none 0 0] 28)) w3 := HH2.out.trans (hb3.chg _)
    have hR := box_only hch3 hlt
    have rc0 := hR.cell (j := 0) rfl
    have y0 := hR.free 0
    have rc1 := hR.cell (j := 1) rfl
    have y1 := hR.free 1
    have rc2 := hR.cell (j := 2) rfl
    have y2 := hR.free 2
    have rc3 := hR.cell (j := 3) rfl
    have y3 := hR.free 3
    have rc4 := hR.cell (j := 4) rfl
    have y4 := hR.free 4
    have rc5 := hR.cell (j := 5) rfl
    have y5 := hR.free 5
    have rc6 := hR.cell (j := 6) rfl
    have y6 := hR.free 6
    have wz := hR.lt
    have HC := Lib.hid (HC2.out.later hb3); have HH := Lib.hid hch3
    clear hR hch3 hb3 HC2 HH2
    go_wp2_with fail
    exact bodyPost_ret (v := .agg #[.int .i64 4, .int .i64 x, .int .i64 y, .string ⟨#[]⟩, .slice none 0 0, .slice none 0 0, .slice none 0 0]) (by simp [results, Try.results71, go_sem, rc0, rc1, rc2, rc3, rc4, rc5, rc6]) rfl (DrawnR.v (drawn_wrap rfl (by have := HX.out; have := HY.out; unfold SmallD; refine ⟨by omega, by omega, by omega, by decide⟩) (Nat.le_trans (by have := cost_leaf 4 x y ⟨#[]⟩; have : (⟨#[]⟩ : ByteArray).size = 0 := rfl; unfold leafD at *; omega) (show 100 ≤ 121000 by decide)) (DrawnT.nils _ _) HC.out HH.out hlt [.int .i64 4, .int .i64 x, .int .i64 y, .string ⟨#[]⟩, .slice none 0 0, .slice none 0 0, .slice none 0 0]))
  · go_wp2_with fail
    refine (drawBent g _ HCX.out).mono ?_; rintro e w3 ⟨⟨d, ⟨z0, z1, z2, z3, E1, u1, m1, E2, u2, m2, E3, u3, m3, rfl, ho⟩, hcost⟩, hcu, hch0⟩
    have hch : Chg (onlyB g) (W.alloc (.cells #[.int .i64 0, .int .i64 0, .int .i64 0, .string ⟨#[]⟩, .slice none 0 0, .slice none 0 0, .slice none 0 0] 28)) w3 := HHX.out.trans hch0
    have hzz := HHX.out.size
    rw [World.size_alloc] at hzz
    have hR := box_only hch hlt
    have rc0 := hR.cell (j := 0) rfl
    have y0 := hR.free 0
    have rc1 := hR.cell (j := 1) rfl
    have y1 := hR.free 1
    have rc2 := hR.cell (j := 2) rfl
    have y2 := hR.free 2
    have rc3 := hR.cell (j := 3) rfl
    have y3 := hR.free 3
    have rc4 := hR.cell (j := 4) rfl
    have y4 := hR.free 4
    have rc5 := hR.cell (j := 5) rfl
    have y5 := hR.free 5
    have rc6 := hR.cell (j := 6) rfl
    have y6 := hR.free 6
    have wz := hR.lt
    have HOW := Lib.hid (ho.more (S' := fun b => W.heap.size + 1 ≤ b ∧ b < w3.heap.size) fun b hb => ⟨by omega, hb.2⟩)
    have HCO := Lib.hid hcost; have HC := Lib.hid hcu
    have HH := Lib.hid ((((Later.rfl' W).alloc (.cells #[.int .i64 0, .int .i64 0, .int .i64 0, .string ⟨#[]⟩, .slice none 0 0, .slice none 0 0, .slice none 0 0] 28)).chg (freshB g W.heap.size)).trans (hch.more fun k hk => .inl hk))
    clear hR hcost ho hcu hch hch0 HHX HCX hzz
    go_wp2_with fail
    exact bodyPost_ret (v := .agg #[.int .i64 z0, .int .i64 z1, .int .i64 z2, .string z3, .slice E1 u1 m1, .slice E2 u2 m2, .slice E3 u3 m3]) (by simp [results, Try.results71, go_sem, rc0, rc1, rc2, rc3, rc4, rc5, rc6]) rfl (fill_end rfl HOW.out HC.out HH.out hlt (Nat.le_trans HCO.out (Nat.le_refl _)) [.int .i64 z0, .int .i64 z1, .int .i64 z2, .string z3, .slice E1 u1 m1, .slice E2 u2 m2, .slice E3 u3 m3])
  · go_wp2_with fail
    refine (drawBent g _ HCX.out).mono ?_; rintro e w3 ⟨⟨d, ⟨z0, z1, z2, z3, E1, u1, m1, E2, u2, m2, E3, u3, m3, rfl, ho⟩, hcost⟩, hcu, hch0⟩
    have hch : Chg (onlyB g) (W.alloc (.cells #[.int .i64 0, .int .i64 0, .int .i64 0, .string ⟨#[]⟩, .slice none 0 0, .slice none 0 0, .slice none 0 0] 28)) w3 := HHX.out.trans hch0
    have hzz := HHX.out.size
    rw [World.size_alloc] at hzz
    have hR := box_only hch hlt
    have rc0 := hR.cell (j := 0) rfl
    have y0 := hR.free 0
    have rc1 := hR.cell (j := 1) rfl
    have y1 := hR.free 1
    have rc2 := hR.cell (j := 2) rfl
    have y2 := hR.free 2
    have rc3 := hR.cell (j := 3) rfl
    have y3 := hR.free 3
    have rc4 := hR.cell (j := 4) rfl
    have y4 := hR.free 4
    have rc5 := hR.cell (j := 5) rfl
    have y5 := hR.free 5
    have rc6 := hR.cell (j := 6) rfl
    have y6 := hR.free 6
    have wz := hR.lt
    have HOW := Lib.hid (ho.more (S' := fun b => W.heap.size + 1 ≤ b ∧ b < w3.heap.size) fun b hb => ⟨by omega, hb.2⟩)
    have HCO := Lib.hid hcost; have HC := Lib.hid hcu
    have HH := Lib.hid ((((Later.rfl' W).alloc (.cells #[.int .i64 0, .int .i64 0, .int .i64 0, .string ⟨#[]⟩, .slice none 0 0, .slice none 0 0, .slice none 0 0] 28)).chg (freshB g W.heap.size)).trans (hch.more fun k hk => .inl hk))
    clear hR hcost ho hcu hch hch0 HHX HCX hzz
    go_wp2_with fail
    exact bodyPost_ret (v := .agg #[.int .i64 z0, .int .i64 z1, .int .i64 z2, .string z3, .slice E1 u1 m1, .slice E2 u2 m2, .slice E3 u3 m3]) (by simp [results, Try.results71, go_sem, rc0, rc1, rc2, rc3, rc4, rc5, rc6]) rfl (fill_end rfl HOW.out HC.out HH.out hlt (Nat.le_trans HCO.out (Nat.le_refl _)) [.int .i64 z0, .int .i64 z1, .int .i64 z2, .string z3, .slice E1 u1 m1, .slice E2 u2 m2, .slice E3 u3 m3])


set_option maxHeartbeats 4000000 in
theorem drawCount (g : Nat) (W : World) (hc : CurAt W g) : Calls Try.prog 77 #[.pointer (some ⟨g, 0, none⟩)] W fun r w' => DrawnV 121000 g W w' r := by
  have hlt := hc.lt
  have HC0 := Lib.hid (hc.later ((Later.rfl' W).alloc (.cells #[.int .i64 0, .int .i64 0, .int .i64 0, .string ⟨#[]⟩, .slice none 0 0, .slice none 0 0, .slice none 0 0] 28)))
  clear hc
  go_enter Try.func77, Try.ntmps77
  go_wp2_with fail
  refine (drawOnce 8 g (by omega) (by omega) _ HC0.out).mono ?_; rintro e w1 ⟨⟨q, rfl⟩, hcu, hch⟩
  have HCX := Lib.hid hcu; have HHX := Lib.hid hch
  clear hcu hch HC0
  cases q with
  | true =>
    go_wp2_with fail
    refine (drawBent g _ HCX.out).mono ?_; rintro e w3 ⟨⟨d, ⟨z0, z1, z2, z3, E1, u1, m1, E2, u2, m2, E3, u3, m3, rfl, ho⟩, hcost⟩, hcu, hch0⟩
    have hch : Chg (onlyB g) (W.alloc (.cells #[.int .i64 0, .int .i64 0, .int .i64 0, .string ⟨#[]⟩, .slice none 0 0, .slice none 0 0, .slice none 0 0] 28)) w3 := HHX.out.trans hch0
    have hzz := HHX.out.size
    rw [World.size_alloc] at hzz
    have hR := box_only hch hlt
    have rc0 := hR.cell (j := 0) rfl
    have y0 := hR.free 0
    have rc1 := hR.cell (j := 1) rfl
    have y1 := hR.free 1
    have rc2 := hR.cell (j := 2) rfl
    have y2 := hR.free 2
    have rc3 := hR.cell (j := 3) rfl
    have y3 := hR.free 3
    have rc4 := hR.cell (j := 4) rfl
    have y4 := hR.free 4
    have rc5 := hR.cell (j := 5) rfl
    have y5 := hR.free 5
    have rc6 := hR.cell (j := 6) rfl
    have y6 := hR.free 6
    have wz := hR.lt
    have HOW := Lib.hid (ho.more (S' := fun b => W.heap.size + 1 ≤ b ∧ b < w3.heap.size) fun b hb => ⟨by omega, hb.2⟩)
    have HCO := Lib.hid hcost; have HC := Lib.hid hcu
    have HH := Lib.hid ((((Later.rfl' W).alloc (.cells #[.int .i64 0, .int .i64 0, .int .i64 0, .string ⟨#[]⟩, .slice none 0 0, .slice none 0 0, .slice none 0 0] 28)).chg (freshB g W.heap.size)).trans (hch.more fun k hk => .inl hk))
    clear hR hcost ho hcu hch hch0 HHX HCX hzz
    go_wp2_with fail
    exact bodyPost_ret (v := .agg #[.int .i64 z0, .int .i64 z1, .int .i64 z2, .string z3, .slice E1 u1 m1, .slice E2 u2 m2, .slice E3 u3 m3]) (by simp [results, Try.results77, go_sem, rc0, rc1, rc2, rc3, rc4, rc5, rc6]) rfl (fill_end rfl HOW.out HC.out HH.out hlt (Nat.le_trans HCO.out (Nat.le_refl _)) [.int .i64 z0, .int .i64 z1, .int .i64 z2, .string z3, .slice E1 u1 m1, .slice E2 u2 m2, .slice E3 u3 m3])
  | false =>
    go_wp2_with fail
    refine (drawBelow 12 g (by omega) (by omega) _ HCX.out).mono ?_; rintro e w2 ⟨⟨x, hx, rfl⟩, hcu, hch⟩
    have HC2 := Lib.hid hcu; have HH2 := Lib.hid (HHX.out.trans hch)
    clear hcu hch HCX HHX
    go_wp2_with fail
    refine (specNumberValue ((x : Int) - 1) _).mono ?_; rintro e w3 ⟨rfl, hb3⟩
    unfold leafA
    have hch3 : Chg (onlyB g) (W.alloc (.cells #[.int .i64 0, .int .i64 0, .int .i64 0, .string ⟨#[]⟩, .slice none 0 0, .slice none 0 0, .slice none 0 0] 28)) w3 := HH2.out.trans (hb3.chg _)
    have hR := box_only hch3 hlt
    have rc0 := hR.cell (j := 0) rfl
    have y0 := hR.free 0
    have rc1 := hR.cell (j := 1) rfl
    have y1 := hR.free 1
    have rc2 := hR.cell (j := 2) rfl
    have y2 := hR.free 2
    have rc3 := hR.cell (j := 3) rfl
    have y3 := hR.free 3
    have rc4 := hR.cell (j := 4) rfl
    have y4 := hR.free 4
    have rc5 := hR.cell (j := 5) rfl
    have y5 := hR.free 5
    have rc6 := hR.cell (j := 6) rfl
    have y6 := hR.free 6
    have wz := hR.lt
    have HC := Lib.hid (HC2.out.later hb3); have HH := Lib.hid hch3
    clear hR hch3 hb3 HC2 HH2
    go_wp2_with fail
    exact bodyPost_ret (v := .agg #[.int .i64 1, .int .i64 ((x : Int) - 1), .int .i64 0, .string ⟨#[]⟩, .slice none 0 0, .slice none 0 0, .slice none 0 0]) (by simp [results, Try.results77, go_sem, rc0, rc1, rc2, rc3, rc4, rc5, rc6]) rfl (DrawnR.v (drawn_wrap rfl (by unfold SmallD; refine ⟨by omega, by omega, by omega, by decide⟩) (Nat.le_trans (by have := cost_leaf 1 ((x : Int) - 1) 0 ⟨#[]⟩; have : (⟨#[]⟩ : ByteArray).size = 0 := rfl; unfold leafD at *; omega) (show 100 ≤ 121000 by decide)) (DrawnT.nils _ _) HC.out HH.out hlt [.int .i64 1, .int .i64 ((x : Int) - 1), .int .i64 0, .string ⟨#[]⟩, .slice none 0 0, .slice none 0 0, .slice none 0 0]))


theorem drawSumOf (v : Value) (n : Nat) (W : World) (h : BytesAt W v n) (hn : n ≤ 1048576) : Calls Try.prog 19 #[v] W fun r w' => DrawOut 121000 w' r ∧ Later W w' := by
  have HN := Lib.hid (drawNew v n (W.alloc (.cells #[.int .i64 0, .int .i64 0, .int .i64 0, .string ⟨#[]⟩, .slice none 0 0, .slice none 0 0, .slice none 0 0] 28)) (h.later ((Later.rfl' _).alloc _)) hn)
  clear h hn
  go_enter Try.func19, Try.ntmps19
  go_wp2_with fail
  refine HN.out.mono ?_; rintro e w1 ⟨⟨g, rfl, hg, hc⟩, hb1⟩
  have HC := Lib.hid hc; have HB := Lib.hid hb1; have HG := Lib.hid hg
  clear hc hb1 hg HN
  go_wp2_with fail
  refine (drawSix g _ HC.out).mono ?_; rintro e w3 ⟨⟨d, ⟨z0, z1, z2, z3, E1, u1, m1, E2, u2, m2, E3, u3, m3, rfl, ho⟩, hcost⟩, hcu, hch⟩
  have hgs := HG.out
  rw [World.size_alloc] at hgs
  have hzb := HB.out.size
  rw [World.size_alloc] at hzb
  have hR : Box w3 W.heap.size [.int .i64 0, .int .i64 0, .int .i64 0, .string ⟨#[]⟩, .slice none 0 0, .slice none 0 0, .slice none 0 0] := ((box_alloc W #[.int .i64 0, .int .i64 0, .int .i64 0, .string ⟨#[]⟩, .slice none 0 0, .slice none 0 0, .slice none 0 0] 28).later HB.out).chg hch fun h => by unfold onlyB at h; omega
  have rc0 := hR.cell (j := 0) rfl
  have y0 := hR.free 0
  have rc1 := hR.cell (j := 1) rfl
  have y1 := hR.free 1
  have rc2 := hR.cell (j := 2) rfl
  have y2 := hR.free 2
  have rc3 := hR.cell (j := 3) rfl
  have y3 := hR.free 3
  have rc4 := hR.cell (j := 4) rfl
  have y4 := hR.free 4
  have rc5 := hR.cell (j := 5) rfl
  have y5 := hR.free 5
  have rc6 := hR.cell (j := 6) rfl
  have y6 := hR.free 6
  have wz := hR.lt
  have c := chg_setFrom (g := W.heap.size) [.int .i64 z0, .int .i64 z1, .int .i64 z2, .string z3, .slice E1 u1 m1, .slice E2 u2 m2, .slice E3 u3 m3] w3 0
  have HAT := Lib.hid ((ho.chg c fun b h1 h2 => by omega).ats.any)
  have HL := Lib.hid (later_setFrom (g := W.heap.size) (Nat.le_refl _) [.int .i64 z0, .int .i64 z1, .int .i64 z2, .string z3, .slice E1 u1 m1, .slice E2 u2 m2, .slice E3 u3 m3] w3 0 (Chg.later (((Later.rfl' W).alloc _).trans HB.out) hch fun k hk => by unfold onlyB at hk; omega))
  have HCO := Lib.hid hcost
  clear hR ho c hcu hch HC HB HG hgs hzb hcost
  go_wp2_with fail
  exact bodyPost_ret (v := .agg #[.int .i64 z0, .int .i64 z1, .int .i64 z2, .string z3, .slice E1 u1 m1, .slice E2 u2 m2, .slice E3 u3 m3]) (by simp [results, Try.results19, go_sem, rc0, rc1, rc2, rc3, rc4, rc5, rc6]) rfl ⟨⟨d, _, _, _, _, _, _, _, _, _, _, _, _, _, rfl, HAT.out, HCO.out⟩, HL.out⟩

end Go.Proofs.Ytghemlokpfipoaa
