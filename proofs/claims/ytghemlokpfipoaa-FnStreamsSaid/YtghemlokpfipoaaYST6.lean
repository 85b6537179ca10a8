/-
  The law FnStreams: its walk.
-/
import Derived.Test.YtghemlokpfipoaaYMG9
import Derived.Test.YtghemlokpfipoaaYST2
import Derived.Test.YtghemlokpfipoaaYVL
import Derived.Test.YtghemlokpfipoaaYV4
import Derived.Deep.RegionHeld3
namespace Go.Proofs.Ytghemlokpfipoaa
open Go.ChangeShapes Go.WideShapes Go.ChangeAt Go.RowKit
set_option linter.unusedVariables false
set_option linter.unusedSimpArgs false
set_option maxRecDepth 100000

theorem Held7.later' {w w' : World} (hb : Later w w') {H : Nat} {c0 c1 c2 c3 c4 c5 c6 : Value} (h : Held7 w H c0 c1 c2 c3 c4 c5 c6) : Held7 w' H c0 c1 c2 c3 c4 c5 c6 :=
  ⟨kept_cell hb h.1, kept_cell hb h.2.1, kept_cell hb h.2.2.1, kept_cell hb h.2.2.2.1, kept_cell hb h.2.2.2.2.1, kept_cell hb h.2.2.2.2.2.1, kept_cell hb h.2.2.2.2.2.2⟩
/-- Three variables, in a world behind Y. -/
abbrev Held21 (Y w : World) (g h k : Nat) (z0 z1 z2 z3 z4 z5 z6 y0 y1 y2 y3 y4 y5 y6 e0 e1 e2 e3 e4 e5 e6 : Value) : Prop :=
  Later Y w ∧ Held7 w g z0 z1 z2 z3 z4 z5 z6 ∧ Held7 w h y0 y1 y2 y3 y4 y5 y6 ∧ Held7 w k e0 e1 e2 e3 e4 e5 e6
theorem Held21.on {Y w w' : World} {g h k : Nat} {z0 z1 z2 z3 z4 z5 z6 y0 y1 y2 y3 y4 y5 y6 e0 e1 e2 e3 e4 e5 e6 : Value} (hb : Later w w') (H : Held21 Y w g h k z0 z1 z2 z3 z4 z5 z6 y0 y1 y2 y3 y4 y5 y6 e0 e1 e2 e3 e4 e5 e6) : Held21 Y w' g h k z0 z1 z2 z3 z4 z5 z6 y0 y1 y2 y3 y4 y5 y6 e0 e1 e2 e3 e4 e5 e6 :=
  ⟨H.1.trans hb, H.2.1.later' hb, H.2.2.1.later' hb, H.2.2.2.later' hb⟩
theorem Held21.drew {Y w : World} {g h k : Nat} {z0 z1 z2 z3 z4 z5 z6 y0 y1 y2 y3 y4 y5 y6 e0 e1 e2 e3 e4 e5 e6 : Value} (H : Held21 Y w g h k z0 z1 z2 z3 z4 z5 z6 y0 y1 y2 y3 y4 y5 y6 e0 e1 e2 e3 e4 e5 e6) : Held21 Y w.drew g h k z0 z1 z2 z3 z4 z5 z6 y0 y1 y2 y3 y4 y5 y6 e0 e1 e2 e3 e4 e5 e6 := H.on (Later.rfl' _).drew
theorem Held21.fst {Y w w' : World} {g h k : Nat} {z0 z1 z2 z3 z4 z5 z6 y0 y1 y2 y3 y4 y5 y6 e0 e1 e2 e3 e4 e5 e6 : Value} (hb : Later w w') (H : Held21 Y w g h k z0 z1 z2 z3 z4 z5 z6 y0 y1 y2 y3 y4 y5 y6 e0 e1 e2 e3 e4 e5 e6) : Later Y w' := H.1.trans hb
theorem World.le_size {a b : World} (h : Later a b) : a.heap.size ≤ b.heap.size := h.size
theorem Held21.set7 {Y w : World} {g h k H : Nat} {z0 z1 z2 z3 z4 z5 z6 y0 y1 y2 y3 y4 y5 y6 e0 e1 e2 e3 e4 e5 e6 : Value} (h0 : Held21 Y Y g h k z0 z1 z2 z3 z4 z5 z6 y0 y1 y2 y3 y4 y5 y6 e0 e1 e2 e3 e4 e5 e6) (hH : Y.heap.size ≤ H) (hw : Later Y w) (a0 a1 a2 a3 a4 a5 a6 : Value) :
    Held21 Y (((((((w.setCell ⟨H, 0, none⟩ a0).setCell ⟨H, 1, none⟩ a1).setCell ⟨H, 2, none⟩ a2).setCell ⟨H, 3, none⟩ a3).setCell ⟨H, 4, none⟩ a4).setCell ⟨H, 5, none⟩ a5).setCell ⟨H, 6, none⟩ a6) g h k z0 z1 z2 z3 z4 z5 z6 y0 y1 y2 y3 y4 y5 y6 e0 e1 e2 e3 e4 e5 e6 :=
  Held21.on (later_setFrom hH [a0, a1, a2, a3, a4, a5, a6] w 0 hw) h0
def ZeroAt (w : World) (H : Nat) : Prop := w.cell? ⟨H, 0, none⟩ = some (.int .i64 0) ∧ w.cell? ⟨H, 1, none⟩ = some (.int .i64 0) ∧ w.cell? ⟨H, 2, none⟩ = some (.int .i64 0) ∧ w.cell? ⟨H, 3, none⟩ = some (.string ⟨#[]⟩) ∧ w.cell? ⟨H, 4, none⟩ = some (.slice none 0 0) ∧ w.cell? ⟨H, 5, none⟩ = some (.slice none 0 0) ∧ w.cell? ⟨H, 6, none⟩ = some (.slice none 0 0) ∧
  w.frozen? ⟨H, 0, none⟩ = false ∧ w.frozen? ⟨H, 1, none⟩ = false ∧ w.frozen? ⟨H, 2, none⟩ = false ∧ w.frozen? ⟨H, 3, none⟩ = false ∧ w.frozen? ⟨H, 4, none⟩ = false ∧ w.frozen? ⟨H, 5, none⟩ = false ∧ w.frozen? ⟨H, 6, none⟩ = false ∧ H < w.heap.size ∧ Box w H [.int .i64 0, .int .i64 0, .int .i64 0, .string ⟨#[]⟩, .slice none 0 0, .slice none 0 0, .slice none 0 0]
theorem ZeroAt.later {w w' : World} {H : Nat} (hb : Later w w') (h : ZeroAt w H) : ZeroAt w' H := by
  obtain ⟨h0, h1, h2, h3, h4, h5, h6, f0, f1, f2, f3, f4, f5, f6, hl, B⟩ := h
  exact ⟨kept_cell hb h0, kept_cell hb h1, kept_cell hb h2, kept_cell hb h3, kept_cell hb h4, kept_cell hb h5, kept_cell hb h6, kept_free hb hl f0, kept_free hb hl f1, kept_free hb hl f2, kept_free hb hl f3, kept_free hb hl f4, kept_free hb hl f5, kept_free hb hl f6, Nat.lt_of_lt_of_le hl hb.size, B.later hb⟩
theorem zero_alloc {w w1 : World} (hb : Later (w.alloc (.cells #[.int .i64 0, .int .i64 0, .int .i64 0, .string ⟨#[]⟩, .slice none 0 0, .slice none 0 0, .slice none 0 0] 28)) w1) : Hid (ZeroAt w1 w.heap.size) := by
  have h := (box_alloc w #[.int .i64 0, .int .i64 0, .int .i64 0, .string ⟨#[]⟩, .slice none 0 0, .slice none 0 0, .slice none 0 0] 28).later hb
  obtain ⟨h0, h1, h2, h3, h4, h5, h6, f0, f1, f2, f3, f4, f5, f6⟩ := box_seven h
  exact ⟨h0, h1, h2, h3, h4, h5, h6, f0, f1, f2, f3, f4, f5, f6, h.lt, h⟩
theorem zero_drew {w w1 : World} (hb : Later (w.alloc (.cells #[.int .i64 0, .int .i64 0, .int .i64 0, .string ⟨#[]⟩, .slice none 0 0, .slice none 0 0, .slice none 0 0] 28)).drew w1) : Hid (ZeroAt w1 w.heap.size) :=
  ZeroAt.later hb (ZeroAt.later (Later.rfl' _).drew (zero_alloc (Later.rfl' _)).out)
theorem ZeroAt.box {w : World} {H : Nat} (h : ZeroAt w H) : Box w H [.int .i64 0, .int .i64 0, .int .i64 0, .string ⟨#[]⟩, .slice none 0 0, .slice none 0 0, .slice none 0 0] := by
  obtain ⟨_, _, _, _, _, _, _, _, _, _, _, _, _, _, _, B⟩ := h
  exact B
theorem nth_leaf {d d' : Vl} (hk : ¬ d'.kind = 3) : ∃ k n, nthD d d' = leafD k n 0 ⟨#[]⟩ := by
  unfold nthD
  cases seqErr d d' with
  | some m => exact ⟨6, m, rfl⟩
  | none =>
    unfold nthN
    simp only
    rw [if_neg hk]
    split
    · exact ⟨6, 5, rfl⟩
    · unfold chkD
      split
      · exact ⟨1, _, rfl⟩
      · exact ⟨6, 5, rfl⟩
theorem nth_any {d d' : Vl} (hk : ¬ d'.kind = 3) {w : World} {S : Nat → Prop} {cs : List Value} (h : Ats w S (encV (nthD d d')) cs) (w' : World) : Ats w' anyB (encV (nthD d d')) cs := by
  obtain ⟨k, n, e⟩ := nth_leaf (d := d) hk
  rw [e] at h ⊢
  exact leaf_any h w'
/-- .. and a fourth. -/
abbrev Held28 (Y w : World) (g h k l : Nat) (z0 z1 z2 z3 z4 z5 z6 y0 y1 y2 y3 y4 y5 y6 e0 e1 e2 e3 e4 e5 e6 x0 x1 x2 x3 x4 x5 x6 : Value) : Prop :=
  Later Y w ∧ Held7 w g z0 z1 z2 z3 z4 z5 z6 ∧ Held7 w h y0 y1 y2 y3 y4 y5 y6 ∧ Held7 w k e0 e1 e2 e3 e4 e5 e6 ∧ Held7 w l x0 x1 x2 x3 x4 x5 x6
theorem Held28.on {Y w w' : World} {g h k l : Nat} {z0 z1 z2 z3 z4 z5 z6 y0 y1 y2 y3 y4 y5 y6 e0 e1 e2 e3 e4 e5 e6 x0 x1 x2 x3 x4 x5 x6 : Value} (hb : Later w w') (H : Held28 Y w g h k l z0 z1 z2 z3 z4 z5 z6 y0 y1 y2 y3 y4 y5 y6 e0 e1 e2 e3 e4 e5 e6 x0 x1 x2 x3 x4 x5 x6) : Held28 Y w' g h k l z0 z1 z2 z3 z4 z5 z6 y0 y1 y2 y3 y4 y5 y6 e0 e1 e2 e3 e4 e5 e6 x0 x1 x2 x3 x4 x5 x6 :=
  ⟨H.1.trans hb, H.2.1.later' hb, H.2.2.1.later' hb, H.2.2.2.1.later' hb, H.2.2.2.2.later' hb⟩
theorem Held28.drew {Y w : World} {g h k l : Nat} {z0 z1 z2 z3 z4 z5 z6 y0 y1 y2 y3 y4 y5 y6 e0 e1 e2 e3 e4 e5 e6 x0 x1 x2 x3 x4 x5 x6 : Value} (H : Held21 Y w g h k z0 z1 z2 z3 z4 z5 z6 y0 y1 y2 y3 y4 y5 y6 e0 e1 e2 e3 e4 e5 e6) (hx : Held7 w l x0 x1 x2 x3 x4 x5 x6) : Held28 Y w.drew g h k l z0 z1 z2 z3 z4 z5 z6 y0 y1 y2 y3 y4 y5 y6 e0 e1 e2 e3 e4 e5 e6 x0 x1 x2 x3 x4 x5 x6 :=
  Held28.on (Later.rfl' _).drew ⟨H.1, H.2.1, H.2.2.1, H.2.2.2, hx⟩
theorem Held28.one {Y w : World} {g h k l : Nat} {z0 z1 z2 z3 z4 z5 z6 y0 y1 y2 y3 y4 y5 y6 e0 e1 e2 e3 e4 e5 e6 x0 x1 x2 x3 x4 x5 x6 : Value} (H : Held28 Y w g h k l z0 z1 z2 z3 z4 z5 z6 y0 y1 y2 y3 y4 y5 y6 e0 e1 e2 e3 e4 e5 e6 x0 x1 x2 x3 x4 x5 x6) : Held21 Y w g h k z0 z1 z2 z3 z4 z5 z6 y0 y1 y2 y3 y4 y5 y6 e0 e1 e2 e3 e4 e5 e6 :=
  ⟨H.1, H.2.1, H.2.2.1, H.2.2.2.1⟩
theorem ats_step {w : World} {S : Nat → Prop} {d : Vl} {y0 y1 y2 : Int} {cs : List Value} (h : Ats w S (encV d) (.int .i64 y0 :: .int .i64 y1 :: .int .i64 y2 :: cs)) : d.step = y2 := by
  obtain ⟨xk, xn, xs, xt, xl, xc, xr, rfl⟩ := Vl.shape d
  obtain ⟨_, _, _, _, _, _, ee, _⟩ := h.val
  simp only [List.cons.injEq, Value.int.injEq, true_and] at ee
  exact ee.2.2.1.symm

set_option maxHeartbeats 40000000 in
theorem walk_FnStreams (v : Value) (n : Nat) (w : World) (h : BytesAt w v n) : Calls Try.prog 5 #[v] w fun r w' => r = .returned (.bool true) ∧ Later w w' := by
  by_cases hbig : 1048576 < n
  · have C0 := bigBytes v n w h
    rw [show decide (1048576 < n) = true by simp; omega] at C0
    have HB := Lib.hid C0
    clear C0 hbig h
    go_enter Try.func5, Try.ntmps5
    go_wp2_with fail
    refine HB.out.mono ?_; rintro e w1 ⟨rfl, hb1⟩
    go_wp2_with fail
    go_ret
    exact ⟨rfl, hb1⟩
  · have C0 := bigBytes v n w h
    rw [show decide (1048576 < n) = false by simp; omega] at C0
    have hle : n ≤ 1048576 := by omega
    have C1 := fun W (hW : Later w W) => drawSkipOf v n W (BytesAt.later h hW) hle
    have HB := Lib.hid C0; have HD := Lib.hid C1
    clear C0 C1 hbig hle h
    go_enter Try.func5, Try.ntmps5
    go_wp2_with fail
    refine HB.out.mono ?_; rintro e w1 ⟨rfl, hb⟩
    have L := Lib.hid hb; clear hb HB
    go_wp2_with fail
    refine (HD.out _ L.out).mono ?_; rintro e w2 ⟨⟨d, d', z0, z1, z2, z3, A1, z4, z7, A2, z5, z8, A3, z6, z9, y0, y1, y2, y3, B1, y4, y7, B2, y5, y8, B3, y6, y9, rfl, hz, hy, hM, hM'⟩, hb⟩
    obtain ⟨X, hX⟩ : ∃ X, X = (w2.alloc (.cells #[.int .i64 z0, .int .i64 z1, .int .i64 z2, .string z3, .slice A1 z4 z7, .slice A2 z5 z8, .slice A3 z6 z9] 28)).alloc (.cells #[.int .i64 y0, .int .i64 y1, .int .i64 y2, .string y3, .slice B1 y4 y7, .slice B2 y5 y8, .slice B3 y6 y9] 28) := ⟨_, rfl⟩
    have hl : Later w2 X := by rw [hX]; exact ((Later.rfl' _).alloc _).alloc _
    have hB : Box X w2.heap.size [.int .i64 z0, .int .i64 z1, .int .i64 z2, .string z3, .slice A1 z4 z7, .slice A2 z5 z8, .slice A3 z6 z9] := by rw [hX]; exact (box_alloc w2 #[.int .i64 z0, .int .i64 z1, .int .i64 z2, .string z3, .slice A1 z4 z7, .slice A2 z5 z8, .slice A3 z6 z9] 28).later ((Later.rfl' _).alloc _)
    have hB' : Box X (w2.heap.size + 1) [.int .i64 y0, .int .i64 y1, .int .i64 y2, .string y3, .slice B1 y4 y7, .slice B2 y5 y8, .slice B3 y6 y9] := by
      rw [hX]
      have h := box_alloc (w2.alloc (.cells #[.int .i64 z0, .int .i64 z1, .int .i64 z2, .string z3, .slice A1 z4 z7, .slice A2 z5 z8, .slice A3 z6 z9] 28)) #[.int .i64 y0, .int .i64 y1, .int .i64 y2, .string y3, .slice B1 y4 y7, .slice B2 y5 y8, .slice B3 y6 y9] 28
      rw [World.size_alloc] at h
      exact h
    have hkz := ats_kn hz
    have hky := ats_kn hy
    have hsy := ats_step hy
    have HL := Lib.hid ((L.out.trans hb).trans hl)
    have HBa := Lib.hid hB; have HBb := Lib.hid hB'
    have HXX := Lib.hid hX
    have hc1 := fun W' (hW : Later X W') => implSkip d d' (by omega) (by omega) W' anyB anyB _ _ ((hz.later hl).later hW) ((hy.later hl).later hW)
    have hc2 := fun W' (hW : Later X W') => specSkip d d' (by omega) (by omega) W' anyB anyB _ _ ((hz.later hl).later hW) ((hy.later hl).later hW)
    have hn5 := fun (K : Vl) (hK : K.cost ≤ 1000000) W' (i : Int) (hi : Between64 i) cs (a : Ats W' anyB (encV K) cs) => implNth (leafD 1 i 0 ⟨#[]⟩) K (by rw [cost_leaf]; decide) hK W' anyB anyB _ cs (leaf_ats W' (by unfold Between64; omega) hi (by unfold Between64; omega) (by decide)) a
    have hpar := fun (k4 : d'.kind = 4) (h4 : (skipD d d').kind = 4) => skip_parts (d := d) (d' := d') k4 h4
    have hnth := fun (k4 : d'.kind = 4) (h4 : (skipD d d').kind = 4) (i : Int) (h0 : 0 ≤ i) (hi : i ≤ 3) (hn : d.n + i ≤ 1000000000) => skip_nth (d := d) (d' := d') k4 h4 h0 hi hn
    rw [hkz.2, hsy] at hpar
    rw [hkz.2] at hnth
    rw [hky.1] at hpar hnth
    have hm5 : d'.cost ≤ 1000000 := by omega
    have HKD := Lib.hid (show d'.kind = y0 from hky.1)
    have HY := Lib.hid (fun W' (hW : Later X W') => (hy.later hl).later hW)
    obtain ⟨K1, hK1⟩ : ∃ K, K = skipD d d' := ⟨_, rfl⟩
    simp only [← hK1] at hc1 hc2 hpar hnth
    have hc6 := fun (K : Vl) W' cs cs' (a : Ats W' anyB (encV K) cs) (b : Ats W' anyB (encV K) cs') => specEqualValue K K W' anyB anyB cs cs' a b
    simp only [vl_same_self] at hc6
    have C1 := Lib.hid hc1; have C2 := Lib.hid hc2; have C5 := Lib.hid hn5; have C6 := Lib.hid hc6; have HPAR := Lib.hid hpar; have HNTH := Lib.hid hnth; have HM5 := Lib.hid hm5
    clear hb L HD hl hB hB' hz hy hM hM' hX hkz hky hsy hc1 hc2 hc6 hn5 hpar hnth hK1 hm5
    go_wp2_with fail
    rw [← HXX.out]
    clear HXX
    obtain ⟨g1, hg1⟩ : ∃ g, g = w2.heap.size := ⟨_, rfl⟩
    obtain ⟨g2, hg2⟩ : ∃ g, g = w2.heap.size + 1 := ⟨_, rfl⟩
    simp only [← hg2] at HBb ⊢
    simp only [← hg1] at HBa ⊢
    clear hg1 hg2
    refine (C1.out _ (Later.rfl' _)).mono ?_; rintro e w4 ⟨⟨e0, e1, e2, e3, E1, e4, e7, E2, e5, e8, E3, e6, e9, rfl, he⟩, hb⟩
    obtain ⟨Y, hY⟩ : ∃ Y, Y = w4.alloc (.cells #[.int .i64 e0, .int .i64 e1, .int .i64 e2, .string e3, .slice E1 e4 e7, .slice E2 e5 e8, .slice E3 e6 e9] 28) := ⟨_, rfl⟩
    have hlY : Later w4 Y := by rw [hY]; exact (Later.rfl' _).alloc _
    have hlb := hb.trans hlY
    have hke := ats_kn (he w4 (Later.rfl' _))
    have hse := ats_step (he w4 (Later.rfl' _))
    have HE := Lib.hid (fun W' (hW : Later Y W') => he W' (hlY.trans hW))
    have hBe : Box Y w4.heap.size [.int .i64 e0, .int .i64 e1, .int .i64 e2, .string e3, .slice E1 e4 e7, .slice E2 e5 e8, .slice E3 e6 e9] := by rw [hY]; exact box_alloc w4 #[.int .i64 e0, .int .i64 e1, .int .i64 e2, .string e3, .slice E1 e4 e7, .slice E2 e5 e8, .slice E3 e6 e9] 28
    have HP : Hid (Held21 Y Y g1 g2 w4.heap.size (.int .i64 z0) (.int .i64 z1) (.int .i64 z2) (.string z3) (.slice A1 z4 z7) (.slice A2 z5 z8) (.slice A3 z6 z9) (.int .i64 y0) (.int .i64 y1) (.int .i64 y2) (.string y3) (.slice B1 y4 y7) (.slice B2 y5 y8) (.slice B3 y6 y9) (.int .i64 e0) (.int .i64 e1) (.int .i64 e2) (.string e3) (.slice E1 e4 e7) (.slice E2 e5 e8) (.slice E3 e6 e9)) := ⟨Later.rfl' _, Held7.of (HBa.out.later hlb), Held7.of (HBb.out.later hlb), Held7.of hBe⟩
    obtain ⟨g3, hg3⟩ : ∃ g, g = w4.heap.size := ⟨_, rfl⟩
    simp only [← hg3] at HP
    have HLX := Lib.hid hlb
    replace HL := Lib.hid (HL.out.trans hlb)
    rw [hke.1] at HPAR HNTH
    have HKE := Lib.hid hse
    have HYY := Lib.hid hY
    clear he hb hlY hlb hke hse hBe hY C1 HBa HBb
    go_wp2_with fail
    rw [← HYY.out]
    simp only [← hg3]
    clear HYY hg3
    have CS : Hid (∀ W', Held21 Y W' g1 g2 g3 (.int .i64 z0) (.int .i64 z1) (.int .i64 z2) (.string z3) (.slice A1 z4 z7) (.slice A2 z5 z8) (.slice A3 z6 z9) (.int .i64 y0) (.int .i64 y1) (.int .i64 y2) (.string y3) (.slice B1 y4 y7) (.slice B2 y5 y8) (.slice B3 y6 y9) (.int .i64 e0) (.int .i64 e1) (.int .i64 e2) (.string e3) (.slice E1 e4 e7) (.slice E2 e5 e8) (.slice E3 e6 e9) → Calls Try.prog 24 #[.agg #[.int .i64 z0, .int .i64 z1, .int .i64 z2, .string z3, .slice A1 z4 z7, .slice A2 z5 z8, .slice A3 z6 z9], .agg #[.int .i64 y0, .int .i64 y1, .int .i64 y2, .string y3, .slice B1 y4 y7, .slice B2 y5 y8, .slice B3 y6 y9]] W' fun r w' => LeafOut w' K1 r ∧ Later W' w') := fun W' h => C2.out W' (HLX.out.trans h.1)
    have CQ : Hid (∀ W' xs, Held21 Y W' g1 g2 g3 (.int .i64 z0) (.int .i64 z1) (.int .i64 z2) (.string z3) (.slice A1 z4 z7) (.slice A2 z5 z8) (.slice A3 z6 z9) (.int .i64 y0) (.int .i64 y1) (.int .i64 y2) (.string y3) (.slice B1 y4 y7) (.slice B2 y5 y8) (.slice B3 y6 y9) (.int .i64 e0) (.int .i64 e1) (.int .i64 e2) (.string e3) (.slice E1 e4 e7) (.slice E2 e5 e8) (.slice E3 e6 e9) → Ats W' anyB (encV K1) xs → Calls Try.prog 15 #[.agg #[.int .i64 e0, .int .i64 e1, .int .i64 e2, .string e3, .slice E1 e4 e7, .slice E2 e5 e8, .slice E3 e6 e9], .agg xs.toArray] W' fun r w' => r = .returned (.bool true) ∧ Later W' w') := fun W' xs h hx => C6.out K1 W' _ xs (HE.out W' h.1) hx
    have CR : Hid (∀ W' xs xs' K, Ats W' anyB (encV K) xs → Ats W' anyB (encV K) xs' → Calls Try.prog 15 #[.agg xs.toArray, .agg xs'.toArray] W' fun r w' => r = .returned (.bool true) ∧ Later W' w') := fun W' xs xs' K h h' => C6.out K W' _ _ h h'
    have CNB : Hid (∀ W' (i : Int), Between64 i → K1.cost ≤ 1000000 → Held21 Y W' g1 g2 g3 (.int .i64 z0) (.int .i64 z1) (.int .i64 z2) (.string z3) (.slice A1 z4 z7) (.slice A2 z5 z8) (.slice A3 z6 z9) (.int .i64 y0) (.int .i64 y1) (.int .i64 y2) (.string y3) (.slice B1 y4 y7) (.slice B2 y5 y8) (.slice B3 y6 y9) (.int .i64 e0) (.int .i64 e1) (.int .i64 e2) (.string e3) (.slice E1 e4 e7) (.slice E2 e5 e8) (.slice E3 e6 e9) → Calls Try.prog 25 #[leafA 1 i 0 ⟨#[]⟩, .agg #[.int .i64 e0, .int .i64 e1, .int .i64 e2, .string e3, .slice E1 e4 e7, .slice E2 e5 e8, .slice E3 e6 e9]] W' fun r w' => LeafOut w' (nthD (leafD 1 i 0 ⟨#[]⟩) K1) r ∧ Later W' w') := fun W' i hi hK h => C5.out K1 hK W' i hi _ (HE.out W' h.1)
    have CNV : Hid (∀ W' (i : Int), Between64 i → Held21 Y W' g1 g2 g3 (.int .i64 z0) (.int .i64 z1) (.int .i64 z2) (.string z3) (.slice A1 z4 z7) (.slice A2 z5 z8) (.slice A3 z6 z9) (.int .i64 y0) (.int .i64 y1) (.int .i64 y2) (.string y3) (.slice B1 y4 y7) (.slice B2 y5 y8) (.slice B3 y6 y9) (.int .i64 e0) (.int .i64 e1) (.int .i64 e2) (.string e3) (.slice E1 e4 e7) (.slice E2 e5 e8) (.slice E3 e6 e9) → Calls Try.prog 25 #[leafA 1 i 0 ⟨#[]⟩, .agg #[.int .i64 y0, .int .i64 y1, .int .i64 y2, .string y3, .slice B1 y4 y7, .slice B2 y5 y8, .slice B3 y6 y9]] W' fun r w' => LeafOut w' (nthD (leafD 1 i 0 ⟨#[]⟩) d') r ∧ Later W' w') := fun W' i hi h => C5.out d' HM5.out W' i hi _ (HY.out W' (HLX.out.trans h.1))
    clear C2 C5 C6 HE HY HM5 HLX
    have HPY := HP
    obtain ⟨_, ⟨va0, va1, va2, va3, va4, va5, va6⟩, ⟨vb0, vb1, vb2, vb3, vb4, vb5, vb6⟩, ⟨vc0, vc1, vc2, vc3, vc4, vc5, vc6⟩⟩ := HP.out
    by_cases hy4 : y0 = 4
    · have ey : (y0 != 4) = false := by simp [hy4]
      have HY4 := Lib.hid hy4
      clear hy4
      go_region_held3 (fun w' => Later Y w' ∧ (w'.cell? ⟨g1, 0, none⟩ = some (.int .i64 z0) ∧ w'.cell? ⟨g1, 1, none⟩ = some (.int .i64 z1) ∧ w'.cell? ⟨g1, 2, none⟩ = some (.int .i64 z2) ∧ w'.cell? ⟨g1, 3, none⟩ = some (.string z3) ∧ w'.cell? ⟨g1, 4, none⟩ = some (.slice A1 z4 z7) ∧ w'.cell? ⟨g1, 5, none⟩ = some (.slice A2 z5 z8) ∧ w'.cell? ⟨g1, 6, none⟩ = some (.slice A3 z6 z9)) ∧ (w'.cell? ⟨g2, 0, none⟩ = some (.int .i64 y0) ∧ w'.cell? ⟨g2, 1, none⟩ = some (.int .i64 y1) ∧ w'.cell? ⟨g2, 2, none⟩ = some (.int .i64 y2) ∧ w'.cell? ⟨g2, 3, none⟩ = some (.string y3) ∧ w'.cell? ⟨g2, 4, none⟩ = some (.slice B1 y4 y7) ∧ w'.cell? ⟨g2, 5, none⟩ = some (.slice B2 y5 y8) ∧ w'.cell? ⟨g2, 6, none⟩ = some (.slice B3 y6 y9)) ∧ (w'.cell? ⟨g3, 0, none⟩ = some (.int .i64 e0) ∧ w'.cell? ⟨g3, 1, none⟩ = some (.int .i64 e1) ∧ w'.cell? ⟨g3, 2, none⟩ = some (.int .i64 e2) ∧ w'.cell? ⟨g3, 3, none⟩ = some (.string e3) ∧ w'.cell? ⟨g3, 4, none⟩ = some (.slice E1 e4 e7) ∧ w'.cell? ⟨g3, 5, none⟩ = some (.slice E2 e5 e8) ∧ w'.cell? ⟨g3, 6, none⟩ = some (.slice E3 e6 e9)))
        (first | with_reducible exact Held21.drew HP.out | with_reducible exact Held21.on hbk (by assumption))
        (first | (go_at_call 24; (with_reducible refine (CS.out _ (by assumption)).mono ?_); rintro r w5 ⟨⟨x0, x1, x2, x3, G1, x4, x7, G2, x5, x8, G3, x6, x9, rfl, hx⟩, hbk⟩; have HX := Lib.hid hx; clear hx) | (go_at_call 15; (with_reducible refine (CQ.out _ _ (by assumption) (HX.out _ (Later.rfl' _))).mono ?_); rintro r w6 ⟨rfl, hbk⟩))
      all_goals
        (rename_i hHL
         replace HP := Lib.hid (show Held21 Y w6 g1 g2 g3 (.int .i64 z0) (.int .i64 z1) (.int .i64 z2) (.string z3) (.slice A1 z4 z7) (.slice A2 z5 z8) (.slice A3 z6 z9) (.int .i64 y0) (.int .i64 y1) (.int .i64 y2) (.string y3) (.slice B1 y4 y7) (.slice B2 y5 y8) (.slice B3 y6 y9) (.int .i64 e0) (.int .i64 e1) (.int .i64 e2) (.string e3) (.slice E1 e4 e7) (.slice E2 e5 e8) (.slice E3 e6 e9) from hHL)
         clear hHL va0 va1 va2 va3 va4 va5 va6 vb0 vb1 vb2 vb3 vb4 vb5 vb6 vc0 vc1 vc2 vc3 vc4 vc5 vc6 HX
         obtain ⟨_, ⟨va0, va1, va2, va3, va4, va5, va6⟩, ⟨vb0, vb1, vb2, vb3, vb4, vb5, vb6⟩, ⟨vc0, vc1, vc2, vc3, vc4, vc5, vc6⟩⟩ := HP.out
         by_cases he4 : e0 = 4
         · have ee : (e0 != 4) = false := by simp [he4]
           have HE4 := Lib.hid he4
           obtain ⟨q0, q1, q2, q3, q4, q5, q6⟩ := HPAR.out HY4.out he4
           clear he4
           have hq1 := numV_iff.1 q1
           have HST : Hid (y2 = e2) := by unfold Hid; rw [← HKE.out, q6]; rfl
           have HCO : Hid (K1.cost ≤ 1000000) := by unfold Hid; rw [q6, cost_leaf]; decide
           clear q1 q2 q3 q4 q5 q6 HPAR HKE CQ CS
           simp only [ee, ey]
           clear ee ey
           go_wp2_with fail
           go_loopw [6] (fun i wr => ∃ j : Nat, i = .int .i64 (j : Int) ∧ j ≤ 4 ∧ Held21 Y wr g1 g2 g3 (.int .i64 z0) (.int .i64 z1) (.int .i64 z2) (.string z3) (.slice A1 z4 z7) (.slice A2 z5 z8) (.slice A3 z6 z9) (.int .i64 y0) (.int .i64 y1) (.int .i64 y2) (.string y3) (.slice B1 y4 y7) (.slice B2 y5 y8) (.slice B3 y6 y9) (.int .i64 e0) (.int .i64 e1) (.int .i64 e2) (.string e3) (.slice E1 e4 e7) (.slice E2 e5 e8) (.slice E3 e6 e9)) (fun i _ => 4 - (intOf i).toNat)
           case atStart => exact ⟨0, rfl, by omega, HP.out⟩
           case round =>
             obtain ⟨j, rfl, hj, hp⟩ := hrel
             clear va0 va1 va2 va3 va4 va5 va6 vb0 vb1 vb2 vb3 vb4 vb5 vb6 vc0 vc1 vc2 vc3 vc4 vc5 vc6
             replace HP := Lib.hid hp
             clear hp
             obtain ⟨_, ⟨va0, va1, va2, va3, va4, va5, va6⟩, ⟨vb0, vb1, vb2, vb3, vb4, vb5, vb6⟩, ⟨vc0, vc1, vc2, vc3, vc4, vc5, vc6⟩⟩ := HP.out
             by_cases hj4 : j < 4
             · have hki : (j : Int) < 4 := by omega
               have hzr := HP.out.1.size
               have HZD : Hid (wr.drew.heap.size = wr.heap.size) := rfl
               have hib : Between64 (j : Int) := by unfold Between64; omega
               go_wp2_with fail
               go_region_held3 (fun w' => Later Y w' ∧ (w'.cell? ⟨g1, 0, none⟩ = some (.int .i64 z0) ∧ w'.cell? ⟨g1, 1, none⟩ = some (.int .i64 z1) ∧ w'.cell? ⟨g1, 2, none⟩ = some (.int .i64 z2) ∧ w'.cell? ⟨g1, 3, none⟩ = some (.string z3) ∧ w'.cell? ⟨g1, 4, none⟩ = some (.slice A1 z4 z7) ∧ w'.cell? ⟨g1, 5, none⟩ = some (.slice A2 z5 z8) ∧ w'.cell? ⟨g1, 6, none⟩ = some (.slice A3 z6 z9)) ∧ (w'.cell? ⟨g2, 0, none⟩ = some (.int .i64 y0) ∧ w'.cell? ⟨g2, 1, none⟩ = some (.int .i64 y1) ∧ w'.cell? ⟨g2, 2, none⟩ = some (.int .i64 y2) ∧ w'.cell? ⟨g2, 3, none⟩ = some (.string y3) ∧ w'.cell? ⟨g2, 4, none⟩ = some (.slice B1 y4 y7) ∧ w'.cell? ⟨g2, 5, none⟩ = some (.slice B2 y5 y8) ∧ w'.cell? ⟨g2, 6, none⟩ = some (.slice B3 y6 y9)) ∧ (w'.cell? ⟨g3, 0, none⟩ = some (.int .i64 e0) ∧ w'.cell? ⟨g3, 1, none⟩ = some (.int .i64 e1) ∧ w'.cell? ⟨g3, 2, none⟩ = some (.int .i64 e2) ∧ w'.cell? ⟨g3, 3, none⟩ = some (.string e3) ∧ w'.cell? ⟨g3, 4, none⟩ = some (.slice E1 e4 e7) ∧ w'.cell? ⟨g3, 5, none⟩ = some (.slice E2 e5 e8) ∧ w'.cell? ⟨g3, 6, none⟩ = some (.slice E3 e6 e9)))
                 (first | with_reducible exact Held21.set7 HPY.out (by first | omega | (have := HZD.out; omega)) HL8.out _ _ _ _ _ _ _ | with_reducible exact Held21.drew HP.out | with_reducible exact Held21.on hbk (by assumption) | with_reducible exact Held21.on hbn (by assumption) | with_reducible exact Held21.on ((Later.rfl' _).alloc _) (by assumption) | with_reducible exact Held21.on (HL8.out.alloc _) HPY.out)
                 (first | (go_at_call 26; (with_reducible refine (specNumberValue _ _).mono ?_); rintro r w7 ⟨rfl, hbk⟩; have hz7 := World.le_size (Held21.fst hbk (by assumption)); (first | (with_reducible have hZ : Hid (ZeroAt w7 wr.heap.size) := zero_drew hbk) | skip)) | (go_at_call 25; (with_reducible refine (CNB.out _ _ hib HCO.out (by assumption)).mono ?_); rintro r w8 ⟨⟨x0, x1, x2, x3, G1, x4, x7, G2, x5, x8, G3, x6, x9, rfl, hx⟩, hbn⟩; have HX := Lib.hid hx; have HL8 := Lib.hid (Held21.fst hbn (by assumption)); clear hx; (first | (replace hZ : Hid (ZeroAt w8 wr.heap.size) := ZeroAt.later hbn hZ.out; obtain ⟨bz0, bz1, bz2, bz3, bz4, bz5, bz6, bw0, bw1, bw2, bw3, bw4, bw5, bw6, hbm, _⟩ := hZ.out) | ((with_reducible have hZ : Hid (ZeroAt w8 w7.heap.size) := zero_alloc hbn); obtain ⟨bz0, bz1, bz2, bz3, bz4, bz5, bz6, bw0, bw1, bw2, bw3, bw4, bw5, bw6, hbm, _⟩ := hZ.out) | skip)))
               · rename_i hHL
                 obtain ⟨W9, hW9⟩ : ∃ W9, W9 = w8.alloc (.cells #[.int .i64 x0, .int .i64 x1, .int .i64 x2, .string x3, .slice G1 x4 x7, .slice G2 x5 x8, .slice G3 x6 x9] 28) := ⟨_, rfl⟩
                 have HR : Hid (Held21 Y W9 g1 g2 g3 (.int .i64 z0) (.int .i64 z1) (.int .i64 z2) (.string z3) (.slice A1 z4 z7) (.slice A2 z5 z8) (.slice A3 z6 z9) (.int .i64 y0) (.int .i64 y1) (.int .i64 y2) (.string y3) (.slice B1 y4 y7) (.slice B2 y5 y8) (.slice B3 y6 y9) (.int .i64 e0) (.int .i64 e1) (.int .i64 e2) (.string e3) (.slice E1 e4 e7) (.slice E2 e5 e8) (.slice E3 e6 e9)) := by rw [hW9]; exact hHL
                 have HX9 : Hid (Held7 W9 w8.heap.size (.int .i64 x0) (.int .i64 x1) (.int .i64 x2) (.string x3) (.slice G1 x4 x7) (.slice G2 x5 x8) (.slice G3 x6 x9)) := by rw [hW9]; exact Held7.of (box_alloc w8 #[.int .i64 x0, .int .i64 x1, .int .i64 x2, .string x3, .slice G1 x4 x7, .slice G2 x5 x8, .slice G3 x6 x9] 28)
                 have HW9 := Lib.hid hW9
                 clear va0 va1 va2 va3 va4 va5 va6 vb0 vb1 vb2 vb3 vb4 vb5 vb6 vc0 vc1 vc2 vc3 vc4 vc5 vc6 hW9 hHL
                 obtain ⟨_, ⟨va0, va1, va2, va3, va4, va5, va6⟩, ⟨vb0, vb1, vb2, vb3, vb4, vb5, vb6⟩, ⟨vc0, vc1, vc2, vc3, vc4, vc5, vc6⟩⟩ := HR.out
                 try clear bz0 bz1 bz2 bz3 bz4 bz5 bz6 bw0 bw1 bw2 bw3 bw4 bw5 bw6
                 obtain ⟨bz0, bz1, bz2, bz3, bz4, bz5, bz6⟩ := HX9.out
                 have hwr : IntKind.i64.wrap (z1 + (j : Int)) = z1 + (j : Int) := IntWalk.i64_in _ (by omega)
                 by_cases hmx : z1 + (j : Int) ≤ 1000000000
                 · have HMX := Lib.hid hmx
                   have hsum : Between64 (z1 + (j : Int)) := by unfold Between64; omega
                   have HXA : Hid (∀ w, Ats w anyB (encV (nthD (leafD 1 (z1 + (j : Int)) 0 ⟨#[]⟩) d')) [.int .i64 x0, .int .i64 x1, .int .i64 x2, .string x3, .slice G1 x4 x7, .slice G2 x5 x8, .slice G3 x6 x9]) := fun w => by
                     have e := HNTH.out HY4.out HE4.out (j : Int) (by omega) (by omega) hmx
                     have h := HX.out _ (Later.rfl' _)
                     rw [e] at h
                     exact nth_any (by rw [HKD.out, HY4.out]; decide) h w
                   clear HX
                   go_wp2_with fail
                   rw [← HW9.out]
                   go_region_held3 (fun w' => Later Y w' ∧ (w'.cell? ⟨g1, 0, none⟩ = some (.int .i64 z0) ∧ w'.cell? ⟨g1, 1, none⟩ = some (.int .i64 z1) ∧ w'.cell? ⟨g1, 2, none⟩ = some (.int .i64 z2) ∧ w'.cell? ⟨g1, 3, none⟩ = some (.string z3) ∧ w'.cell? ⟨g1, 4, none⟩ = some (.slice A1 z4 z7) ∧ w'.cell? ⟨g1, 5, none⟩ = some (.slice A2 z5 z8) ∧ w'.cell? ⟨g1, 6, none⟩ = some (.slice A3 z6 z9)) ∧ (w'.cell? ⟨g2, 0, none⟩ = some (.int .i64 y0) ∧ w'.cell? ⟨g2, 1, none⟩ = some (.int .i64 y1) ∧ w'.cell? ⟨g2, 2, none⟩ = some (.int .i64 y2) ∧ w'.cell? ⟨g2, 3, none⟩ = some (.string y3) ∧ w'.cell? ⟨g2, 4, none⟩ = some (.slice B1 y4 y7) ∧ w'.cell? ⟨g2, 5, none⟩ = some (.slice B2 y5 y8) ∧ w'.cell? ⟨g2, 6, none⟩ = some (.slice B3 y6 y9)) ∧ (w'.cell? ⟨g3, 0, none⟩ = some (.int .i64 e0) ∧ w'.cell? ⟨g3, 1, none⟩ = some (.int .i64 e1) ∧ w'.cell? ⟨g3, 2, none⟩ = some (.int .i64 e2) ∧ w'.cell? ⟨g3, 3, none⟩ = some (.string e3) ∧ w'.cell? ⟨g3, 4, none⟩ = some (.slice E1 e4 e7) ∧ w'.cell? ⟨g3, 5, none⟩ = some (.slice E2 e5 e8) ∧ w'.cell? ⟨g3, 6, none⟩ = some (.slice E3 e6 e9)) ∧ (w'.cell? ⟨w8.heap.size, 0, none⟩ = some (.int .i64 x0) ∧ w'.cell? ⟨w8.heap.size, 1, none⟩ = some (.int .i64 x1) ∧ w'.cell? ⟨w8.heap.size, 2, none⟩ = some (.int .i64 x2) ∧ w'.cell? ⟨w8.heap.size, 3, none⟩ = some (.string x3) ∧ w'.cell? ⟨w8.heap.size, 4, none⟩ = some (.slice G1 x4 x7) ∧ w'.cell? ⟨w8.heap.size, 5, none⟩ = some (.slice G2 x5 x8) ∧ w'.cell? ⟨w8.heap.size, 6, none⟩ = some (.slice G3 x6 x9)))
                     (first | with_reducible exact Held28.drew HR.out HX9.out | with_reducible exact Held28.on hbk (by assumption) | with_reducible exact Held28.on hbn (by assumption))
                     (first | (go_at_call 26; (with_reducible refine (specNumberValue _ _).mono ?_); rintro r wa ⟨rfl, hbk⟩) | (go_at_call 25; (with_reducible refine (CNV.out _ _ hsum (Held28.one (by assumption))).mono ?_); rintro r wb ⟨⟨m0, m1, m2, m3, M1, m4, m7, M2, m5, m8, M3, m6, m9, rfl, hx⟩, hbn⟩; have HX2 := Lib.hid hx; clear hx) | (go_at_call 15; (with_reducible refine (CR.out _ _ _ _ (HXA.out _) (HX2.out _ (Later.rfl' _))).mono ?_); rintro r wc ⟨rfl, hbk⟩))
                   all_goals
                     (rename_i hHL2
                      have HR2 := Lib.hid (Held28.one hHL2)
                      clear hHL2 va0 va1 va2 va3 va4 va5 va6 vb0 vb1 vb2 vb3 vb4 vb5 vb6 vc0 vc1 vc2 vc3 vc4 vc5 vc6 bz0 bz1 bz2 bz3 bz4 bz5 bz6 HX9 HR
                      go_wp2_with fail
                      go_roundw
                      case rel => exact ⟨j + 1, by go_num, by omega, HR2.out⟩
                      case measure => simp [intOf]; omega)
                 · have hmx2 : decide (z1 + (j : Int) ≤ 1000000000) = false := decide_eq_false hmx
                   go_wp2_with fail
                   rw [← HW9.out]
                   first | refine wp_region_noPanic ?_ | skip
                   refine wp_region_held_drew (S := (fun w' => Later Y w' ∧ (w'.cell? ⟨g1, 0, none⟩ = some (.int .i64 z0) ∧ w'.cell? ⟨g1, 1, none⟩ = some (.int .i64 z1) ∧ w'.cell? ⟨g1, 2, none⟩ = some (.int .i64 z2) ∧ w'.cell? ⟨g1, 3, none⟩ = some (.string z3) ∧ w'.cell? ⟨g1, 4, none⟩ = some (.slice A1 z4 z7) ∧ w'.cell? ⟨g1, 5, none⟩ = some (.slice A2 z5 z8) ∧ w'.cell? ⟨g1, 6, none⟩ = some (.slice A3 z6 z9)) ∧ (w'.cell? ⟨g2, 0, none⟩ = some (.int .i64 y0) ∧ w'.cell? ⟨g2, 1, none⟩ = some (.int .i64 y1) ∧ w'.cell? ⟨g2, 2, none⟩ = some (.int .i64 y2) ∧ w'.cell? ⟨g2, 3, none⟩ = some (.string y3) ∧ w'.cell? ⟨g2, 4, none⟩ = some (.slice B1 y4 y7) ∧ w'.cell? ⟨g2, 5, none⟩ = some (.slice B2 y5 y8) ∧ w'.cell? ⟨g2, 6, none⟩ = some (.slice B3 y6 y9)) ∧ (w'.cell? ⟨g3, 0, none⟩ = some (.int .i64 e0) ∧ w'.cell? ⟨g3, 1, none⟩ = some (.int .i64 e1) ∧ w'.cell? ⟨g3, 2, none⟩ = some (.int .i64 e2) ∧ w'.cell? ⟨g3, 3, none⟩ = some (.string e3) ∧ w'.cell? ⟨g3, 4, none⟩ = some (.slice E1 e4 e7) ∧ w'.cell? ⟨g3, 5, none⟩ = some (.slice E2 e5 e8) ∧ w'.cell? ⟨g3, 6, none⟩ = some (.slice E3 e6 e9)) ∧ (w'.cell? ⟨w8.heap.size, 0, none⟩ = some (.int .i64 x0) ∧ w'.cell? ⟨w8.heap.size, 1, none⟩ = some (.int .i64 x1) ∧ w'.cell? ⟨w8.heap.size, 2, none⟩ = some (.int .i64 x2) ∧ w'.cell? ⟨w8.heap.size, 3, none⟩ = some (.string x3) ∧ w'.cell? ⟨w8.heap.size, 4, none⟩ = some (.slice G1 x4 x7) ∧ w'.cell? ⟨w8.heap.size, 5, none⟩ = some (.slice G2 x5 x8) ∧ w'.cell? ⟨w8.heap.size, 6, none⟩ = some (.slice G3 x6 x9)))) (by kernel_rfl) (by with_reducible exact Held28.drew HR.out HX9.out) (fun hHeld1 => ?_)
                   refine wpAnyH_take (i := 0) (v := ?_) rfl (by kernel_rfl) (by kernel_rfl) (by kernel_rfl) (fun _ _ _ h => h) (Or.inl ⟨by kernel_rfl, ?_⟩) (by assumption) ?_
                   rotate_left
                   · intro w hSw
                     try dsimp only at hSw
                     go_simp
                     all_goals with_reducible rfl
                   try simp only [Act.put, Array.reduceGetElem, List.setIfInBounds_toArray, List.set_cons_zero, List.set_cons_succ]
                   refine wpAnyH_take (i := 1) (v := ?_) rfl (by kernel_rfl) (by kernel_rfl) (by kernel_rfl) (fun _ _ _ h => h) (Or.inl ⟨by kernel_rfl, ?_⟩) (by assumption) ?_
                   rotate_left
                   · intro w hSw
                     try dsimp only at hSw
                     go_simp
                     all_goals with_reducible rfl
                   try simp only [Act.put, Array.reduceGetElem, List.setIfInBounds_toArray, List.set_cons_zero, List.set_cons_succ]
                   refine wpAnyH_take (i := 2) (v := ?_) rfl (by kernel_rfl) (by kernel_rfl) (by kernel_rfl) (fun _ _ _ h => h) (Or.inl ⟨by kernel_rfl, ?_⟩) (by assumption) ?_
                   rotate_left
                   · intro w hSw
                     try dsimp only at hSw
                     go_simp
                     all_goals with_reducible rfl
                   try simp only [Act.put, Array.reduceGetElem, List.setIfInBounds_toArray, List.set_cons_zero, List.set_cons_succ]
                   refine wpAnyH_take (i := 3) (v := ?_) rfl (by kernel_rfl) (by kernel_rfl) (by kernel_rfl) (fun _ _ _ h => h) (Or.inl ⟨by kernel_rfl, ?_⟩) (by assumption) ?_
                   rotate_left
                   · intro w hSw
                     try dsimp only at hSw
                     go_simp
                     all_goals with_reducible rfl
                   try simp only [Act.put, Array.reduceGetElem, List.setIfInBounds_toArray, List.set_cons_zero, List.set_cons_succ]
                   refine wpAnyH_take (i := 4) (v := ?_) rfl (by kernel_rfl) (by kernel_rfl) (by kernel_rfl) (fun _ _ _ h => h) (Or.inl ⟨by kernel_rfl, ?_⟩) (by assumption) ?_
                   rotate_left
                   · intro w hSw
                     try dsimp only at hSw
                     go_simp
                     all_goals with_reducible rfl
                   try simp only [Act.put, Array.reduceGetElem, List.setIfInBounds_toArray, List.set_cons_zero, List.set_cons_succ]
                   refine wpAnyH_take (i := 5) (v := ?_) rfl (by kernel_rfl) (by kernel_rfl) (by kernel_rfl) (fun _ _ _ h => h) (Or.inl ⟨by kernel_rfl, ?_⟩) (by assumption) ?_
                   rotate_left
                   · intro w hSw
                     try dsimp only at hSw
                     go_simp
                     all_goals with_reducible rfl
                   try simp only [Act.put, Array.reduceGetElem, List.setIfInBounds_toArray, List.set_cons_zero, List.set_cons_succ]
                   refine wpAnyH_take (i := 6) (v := ?_) rfl (by kernel_rfl) (by kernel_rfl) (by kernel_rfl) (fun _ _ _ h => h) (Or.inr ⟨by kernel_rfl, ?_⟩) (by assumption) ?_
                   rotate_left
                   · rfl
                   try simp only [Act.put, Array.reduceGetElem, List.setIfInBounds_toArray, List.set_cons_zero, List.set_cons_succ]
                   refine wpAnyH_take (i := 7) (v := ?_) rfl (by kernel_rfl) (by kernel_rfl) (by kernel_rfl) (fun _ _ _ h => h) (Or.inr ⟨by kernel_rfl, ?_⟩) (by assumption) ?_
                   rotate_left
                   · rfl
                   try simp only [Act.put, Array.reduceGetElem, List.setIfInBounds_toArray, List.set_cons_zero, List.set_cons_succ]
                   refine wpAnyH_take (i := 8) (v := ?_) rfl (by kernel_rfl) (by kernel_rfl) (by kernel_rfl) (fun _ _ _ h => h) (Or.inr ⟨by kernel_rfl, ?_⟩) (by assumption) ?_
                   rotate_left
                   · rfl
                   try simp only [Act.put, Array.reduceGetElem, List.setIfInBounds_toArray, List.set_cons_zero, List.set_cons_succ]
                   refine wpAnyH_take (i := 9) (v := ?_) rfl (by kernel_rfl) (by kernel_rfl) (by kernel_rfl) (fun _ _ _ h => h) (Or.inr ⟨by kernel_rfl, ?_⟩) (by assumption) ?_
                   rotate_left
                   · rfl
                   try simp only [Act.put, Array.reduceGetElem, List.setIfInBounds_toArray, List.set_cons_zero, List.set_cons_succ]
                   refine wpAnyH_take (i := 10) (v := ?_) rfl (by kernel_rfl) (by kernel_rfl) (by kernel_rfl) (fun _ _ _ h => h) (Or.inr ⟨by kernel_rfl, ?_⟩) (by assumption) ?_
                   rotate_left
                   · rfl
                   try simp only [Act.put, Array.reduceGetElem, List.setIfInBounds_toArray, List.set_cons_zero, List.set_cons_succ]
                   refine wpAnyH_take (i := 11) (v := ?_) rfl (by kernel_rfl) (by kernel_rfl) (by kernel_rfl) (fun _ _ _ h => h) (Or.inr ⟨by kernel_rfl, ?_⟩) (by assumption) ?_
                   rotate_left
                   · rfl
                   try simp only [Act.put, Array.reduceGetElem, List.setIfInBounds_toArray, List.set_cons_zero, List.set_cons_succ]
                   refine wpAnyH_take (i := 12) (v := ?_) rfl (by kernel_rfl) (by kernel_rfl) (by kernel_rfl) (fun _ _ _ h => h) (Or.inr ⟨by kernel_rfl, ?_⟩) (by assumption) ?_
                   rotate_left
                   · rfl
                   try simp only [Act.put, Array.reduceGetElem, List.setIfInBounds_toArray, List.set_cons_zero, List.set_cons_succ]
                   refine wpAnyH_take (i := 13) (v := ?_) rfl (by kernel_rfl) (by kernel_rfl) (by kernel_rfl) (fun _ _ _ h => h) (Or.inr ⟨by kernel_rfl, ?_⟩) (by assumption) ?_
                   rotate_left
                   · rfl
                   try simp only [Act.put, Array.reduceGetElem, List.setIfInBounds_toArray, List.set_cons_zero, List.set_cons_succ]
                   refine wpAnyH_take (i := 14) (v := ?_) rfl (by kernel_rfl) (by kernel_rfl) (by kernel_rfl) (fun _ _ _ h => h) (Or.inr ⟨by kernel_rfl, ?_⟩) (by assumption) ?_
                   rotate_left
                   · rfl
                   try simp only [Act.put, Array.reduceGetElem, List.setIfInBounds_toArray, List.set_cons_zero, List.set_cons_succ]
                   refine wpAnyH_take (i := 15) (v := ?_) rfl (by kernel_rfl) (by kernel_rfl) (by kernel_rfl) (fun _ _ _ h => h) (Or.inr ⟨by kernel_rfl, ?_⟩) (by assumption) ?_
                   rotate_left
                   · rfl
                   try simp only [Act.put, Array.reduceGetElem, List.setIfInBounds_toArray, List.set_cons_zero, List.set_cons_succ]
                   refine wpAnyH_take (i := 16) (v := ?_) rfl (by kernel_rfl) (by kernel_rfl) (by kernel_rfl) (fun _ _ _ h => h) (Or.inl ⟨by kernel_rfl, ?_⟩) (by assumption) ?_
                   rotate_left
                   · intro w hSw
                     try dsimp only at hSw
                     go_simp
                     all_goals with_reducible rfl
                   try simp only [Act.put, Array.reduceGetElem, List.setIfInBounds_toArray, List.set_cons_zero, List.set_cons_succ]
                   refine wpAnyH_done (by kernel_rfl) ?_ _
                   have HR2 := Lib.hid (Held28.one hHeld1)
                   clear hHeld1 va0 va1 va2 va3 va4 va5 va6 vb0 vb1 vb2 vb3 vb4 vb5 vb6 vc0 vc1 vc2 vc3 vc4 vc5 vc6 bz0 bz1 bz2 bz3 bz4 bz5 bz6 HX9 HR
                   first | refine NoPanic.normal ?_ | skip
                   go_wp2_with fail
                   go_roundw
                   case rel => exact ⟨j + 1, by go_num, by omega, HR2.out⟩
                   case measure => simp [intOf]; omega
               · rename_i hHL
                 obtain ⟨W9, hW9⟩ : ∃ W9, W9 = (((((((w8.setCell ⟨w7.heap.size, 0, none⟩ (.int .i64 x0)).setCell ⟨w7.heap.size, 1, none⟩ (.int .i64 x1)).setCell ⟨w7.heap.size, 2, none⟩ (.int .i64 x2)).setCell ⟨w7.heap.size, 3, none⟩ (.string x3)).setCell ⟨w7.heap.size, 4, none⟩ (.slice G1 x4 x7)).setCell ⟨w7.heap.size, 5, none⟩ (.slice G2 x5 x8)).setCell ⟨w7.heap.size, 6, none⟩ (.slice G3 x6 x9)) := ⟨_, rfl⟩
                 have HR : Hid (Held21 Y W9 g1 g2 g3 (.int .i64 z0) (.int .i64 z1) (.int .i64 z2) (.string z3) (.slice A1 z4 z7) (.slice A2 z5 z8) (.slice A3 z6 z9) (.int .i64 y0) (.int .i64 y1) (.int .i64 y2) (.string y3) (.slice B1 y4 y7) (.slice B2 y5 y8) (.slice B3 y6 y9) (.int .i64 e0) (.int .i64 e1) (.int .i64 e2) (.string e3) (.slice E1 e4 e7) (.slice E2 e5 e8) (.slice E3 e6 e9)) := by rw [hW9]; exact hHL
                 have HX9 : Hid (Held7 W9 w7.heap.size (.int .i64 x0) (.int .i64 x1) (.int .i64 x2) (.string x3) (.slice G1 x4 x7) (.slice G2 x5 x8) (.slice G3 x6 x9)) := by rw [hW9]; exact Held7.of (box_chain (ZeroAt.box hZ.out) (.int .i64 x0) (.int .i64 x1) (.int .i64 x2) (.string x3) (.slice G1 x4 x7) (.slice G2 x5 x8) (.slice G3 x6 x9))
                 have HW9 := Lib.hid hW9
                 clear va0 va1 va2 va3 va4 va5 va6 vb0 vb1 vb2 vb3 vb4 vb5 vb6 vc0 vc1 vc2 vc3 vc4 vc5 vc6 hW9 hHL
                 obtain ⟨_, ⟨va0, va1, va2, va3, va4, va5, va6⟩, ⟨vb0, vb1, vb2, vb3, vb4, vb5, vb6⟩, ⟨vc0, vc1, vc2, vc3, vc4, vc5, vc6⟩⟩ := HR.out
                 try clear bz0 bz1 bz2 bz3 bz4 bz5 bz6 bw0 bw1 bw2 bw3 bw4 bw5 bw6
                 obtain ⟨bz0, bz1, bz2, bz3, bz4, bz5, bz6⟩ := HX9.out
                 have hwr : IntKind.i64.wrap (z1 + (j : Int)) = z1 + (j : Int) := IntWalk.i64_in _ (by omega)
                 by_cases hmx : z1 + (j : Int) ≤ 1000000000
                 · have HMX := Lib.hid hmx
                   have hsum : Between64 (z1 + (j : Int)) := by unfold Between64; omega
                   have HXA : Hid (∀ w, Ats w anyB (encV (nthD (leafD 1 (z1 + (j : Int)) 0 ⟨#[]⟩) d')) [.int .i64 x0, .int .i64 x1, .int .i64 x2, .string x3, .slice G1 x4 x7, .slice G2 x5 x8, .slice G3 x6 x9]) := fun w => by
                     have e := HNTH.out HY4.out HE4.out (j : Int) (by omega) (by omega) hmx
                     have h := HX.out _ (Later.rfl' _)
                     rw [e] at h
                     exact nth_any (by rw [HKD.out, HY4.out]; decide) h w
                   clear HX
                   go_wp2_with fail
                   rw [← HW9.out]
                   go_region_held3 (fun w' => Later Y w' ∧ (w'.cell? ⟨g1, 0, none⟩ = some (.int .i64 z0) ∧ w'.cell? ⟨g1, 1, none⟩ = some (.int .i64 z1) ∧ w'.cell? ⟨g1, 2, none⟩ = some (.int .i64 z2) ∧ w'.cell? ⟨g1, 3, none⟩ = some (.string z3) ∧ w'.cell? ⟨g1, 4, none⟩ = some (.slice A1 z4 z7) ∧ w'.cell? ⟨g1, 5, none⟩ = some (.slice A2 z5 z8) ∧ w'.cell? ⟨g1, 6, none⟩ = some (.slice A3 z6 z9)) ∧ (w'.cell? ⟨g2, 0, none⟩ = some (.int .i64 y0) ∧ w'.cell? ⟨g2, 1, none⟩ = some (.int .i64 y1) ∧ w'.cell? ⟨g2, 2, none⟩ = some (.int .i64 y2) ∧ w'.cell? ⟨g2, 3, none⟩ = some (.string y3) ∧ w'.cell? ⟨g2, 4, none⟩ = some (.slice B1 y4 y7) ∧ w'.cell? ⟨g2, 5, none⟩ = some (.slice B2 y5 y8) ∧ w'.cell? ⟨g2, 6, none⟩ = some (.slice B3 y6 y9)) ∧ (w'.cell? ⟨g3, 0, none⟩ = some (.int .i64 e0) ∧ w'.cell? ⟨g3, 1, none⟩ = some (.int .i64 e1) ∧ w'.cell? ⟨g3, 2, none⟩ = some (.int .i64 e2) ∧ w'.cell? ⟨g3, 3, none⟩ = some (.string e3) ∧ w'.cell? ⟨g3, 4, none⟩ = some (.slice E1 e4 e7) ∧ w'.cell? ⟨g3, 5, none⟩ = some (.slice E2 e5 e8) ∧ w'.cell? ⟨g3, 6, none⟩ = some (.slice E3 e6 e9)) ∧ (w'.cell? ⟨w7.heap.size, 0, none⟩ = some (.int .i64 x0) ∧ w'.cell? ⟨w7.heap.size, 1, none⟩ = some (.int .i64 x1) ∧ w'.cell? ⟨w7.heap.size, 2, none⟩ = some (.int .i64 x2) ∧ w'.cell? ⟨w7.heap.size, 3, none⟩ = some (.string x3) ∧ w'.cell? ⟨w7.heap.size, 4, none⟩ = some (.slice G1 x4 x7) ∧ w'.cell? ⟨w7.heap.size, 5, none⟩ = some (.slice G2 x5 x8) ∧ w'.cell? ⟨w7.heap.size, 6, none⟩ = some (.slice G3 x6 x9)))
                     (first | with_reducible exact Held28.drew HR.out HX9.out | with_reducible exact Held28.on hbk (by assumption) | with_reducible exact Held28.on hbn (by assumption))
                     (first | (go_at_call 26; (with_reducible refine (specNumberValue _ _).mono ?_); rintro r wa ⟨rfl, hbk⟩) | (go_at_call 25; (with_reducible refine (CNV.out _ _ hsum (Held28.one (by assumption))).mono ?_); rintro r wb ⟨⟨m0, m1, m2, m3, M1, m4, m7, M2, m5, m8, M3, m6, m9, rfl, hx⟩, hbn⟩; have HX2 := Lib.hid hx; clear hx) | (go_at_call 15; (with_reducible refine (CR.out _ _ _ _ (HXA.out _) (HX2.out _ (Later.rfl' _))).mono ?_); rintro r wc ⟨rfl, hbk⟩))
                   all_goals
                     (rename_i hHL2
                      have HR2 := Lib.hid (Held28.one hHL2)
                      clear hHL2 va0 va1 va2 va3 va4 va5 va6 vb0 vb1 vb2 vb3 vb4 vb5 vb6 vc0 vc1 vc2 vc3 vc4 vc5 vc6 bz0 bz1 bz2 bz3 bz4 bz5 bz6 HX9 HR
                      go_wp2_with fail
                      go_roundw
                      case rel => exact ⟨j + 1, by go_num, by omega, HR2.out⟩
                      case measure => simp [intOf]; omega)
                 · have hmx2 : decide (z1 + (j : Int) ≤ 1000000000) = false := decide_eq_false hmx
                   go_wp2_with fail
                   rw [← HW9.out]
                   first | refine wp_region_noPanic ?_ | skip
                   refine wp_region_held_drew (S := (fun w' => Later Y w' ∧ (w'.cell? ⟨g1, 0, none⟩ = some (.int .i64 z0) ∧ w'.cell? ⟨g1, 1, none⟩ = some (.int .i64 z1) ∧ w'.cell? ⟨g1, 2, none⟩ = some (.int .i64 z2) ∧ w'.cell? ⟨g1, 3, none⟩ = some (.string z3) ∧ w'.cell? ⟨g1, 4, none⟩ = some (.slice A1 z4 z7) ∧ w'.cell? ⟨g1, 5, none⟩ = some (.slice A2 z5 z8) ∧ w'.cell? ⟨g1, 6, none⟩ = some (.slice A3 z6 z9)) ∧ (w'.cell? ⟨g2, 0, none⟩ = some (.int .i64 y0) ∧ w'.cell? ⟨g2, 1, none⟩ = some (.int .i64 y1) ∧ w'.cell? ⟨g2, 2, none⟩ = some (.int .i64 y2) ∧ w'.cell? ⟨g2, 3, none⟩ = some (.string y3) ∧ w'.cell? ⟨g2, 4, none⟩ = some (.slice B1 y4 y7) ∧ w'.cell? ⟨g2, 5, none⟩ = some (.slice B2 y5 y8) ∧ w'.cell? ⟨g2, 6, none⟩ = some (.slice B3 y6 y9)) ∧ (w'.cell? ⟨g3, 0, none⟩ = some (.int .i64 e0) ∧ w'.cell? ⟨g3, 1, none⟩ = some (.int .i64 e1) ∧ w'.cell? ⟨g3, 2, none⟩ = some (.int .i64 e2) ∧ w'.cell? ⟨g3, 3, none⟩ = some (.string e3) ∧ w'.cell? ⟨g3, 4, none⟩ = some (.slice E1 e4 e7) ∧ w'.cell? ⟨g3, 5, none⟩ = some (.slice E2 e5 e8) ∧ w'.cell? ⟨g3, 6, none⟩ = some (.slice E3 e6 e9)) ∧ (w'.cell? ⟨w7.heap.size, 0, none⟩ = some (.int .i64 x0) ∧ w'.cell? ⟨w7.heap.size, 1, none⟩ = some (.int .i64 x1) ∧ w'.cell? ⟨w7.heap.size, 2, none⟩ = some (.int .i64 x2) ∧ w'.cell? ⟨w7.heap.size, 3, none⟩ = some (.string x3) ∧ w'.cell? ⟨w7.heap.size, 4, none⟩ = some (.slice G1 x4 x7) ∧ w'.cell? ⟨w7.heap.size, 5, none⟩ = some (.slice G2 x5 x8) ∧ w'.cell? ⟨w7.heap.size, 6, none⟩ = some (.slice G3 x6 x9)))) (by kernel_rfl) (by with_reducible exact Held28.drew HR.out HX9.out) (fun hHeld1 => ?_)
                   refine wpAnyH_take (i := 0) (v := ?_) rfl (by kernel_rfl) (by kernel_rfl) (by kernel_rfl) (fun _ _ _ h => h) (Or.inl ⟨by kernel_rfl, ?_⟩) (by assumption) ?_
                   rotate_left
                   · intro w hSw
                     try dsimp only at hSw
                     go_simp
                     all_goals with_reducible rfl
                   try simp only [Act.put, Array.reduceGetElem, List.setIfInBounds_toArray, List.set_cons_zero, List.set_cons_succ]
                   refine wpAnyH_take (i := 1) (v := ?_) rfl (by kernel_rfl) (by kernel_rfl) (by kernel_rfl) (fun _ _ _ h => h) (Or.inl ⟨by kernel_rfl, ?_⟩) (by assumption) ?_
                   rotate_left
                   · intro w hSw
                     try dsimp only at hSw
                     go_simp
                     all_goals with_reducible rfl
                   try simp only [Act.put, Array.reduceGetElem, List.setIfInBounds_toArray, List.set_cons_zero, List.set_cons_succ]
                   refine wpAnyH_take (i := 2) (v := ?_) rfl (by kernel_rfl) (by kernel_rfl) (by kernel_rfl) (fun _ _ _ h => h) (Or.inl ⟨by kernel_rfl, ?_⟩) (by assumption) ?_
                   rotate_left
                   · intro w hSw
                     try dsimp only at hSw
                     go_simp
                     all_goals with_reducible rfl
                   try simp only [Act.put, Array.reduceGetElem, List.setIfInBounds_toArray, List.set_cons_zero, List.set_cons_succ]
                   refine wpAnyH_take (i := 3) (v := ?_) rfl (by kernel_rfl) (by kernel_rfl) (by kernel_rfl) (fun _ _ _ h => h) (Or.inl ⟨by kernel_rfl, ?_⟩) (by assumption) ?_
                   rotate_left
                   · intro w hSw
                     try dsimp only at hSw
                     go_simp
                     all_goals with_reducible rfl
                   try simp only [Act.put, Array.reduceGetElem, List.setIfInBounds_toArray, List.set_cons_zero, List.set_cons_succ]
                   refine wpAnyH_take (i := 4) (v := ?_) rfl (by kernel_rfl) (by kernel_rfl) (by kernel_rfl) (fun _ _ _ h => h) (Or.inl ⟨by kernel_rfl, ?_⟩) (by assumption) ?_
                   rotate_left
                   · intro w hSw
                     try dsimp only at hSw
                     go_simp
                     all_goals with_reducible rfl
                   try simp only [Act.put, Array.reduceGetElem, List.setIfInBounds_toArray, List.set_cons_zero, List.set_cons_succ]
                   refine wpAnyH_take (i := 5) (v := ?_) rfl (by kernel_rfl) (by kernel_rfl) (by kernel_rfl) (fun _ _ _ h => h) (Or.inl ⟨by kernel_rfl, ?_⟩) (by assumption) ?_
                   rotate_left
                   · intro w hSw
                     try dsimp only at hSw
                     go_simp
                     all_goals with_reducible rfl
                   try simp only [Act.put, Array.reduceGetElem, List.setIfInBounds_toArray, List.set_cons_zero, List.set_cons_succ]
                   refine wpAnyH_take (i := 6) (v := ?_) rfl (by kernel_rfl) (by kernel_rfl) (by kernel_rfl) (fun _ _ _ h => h) (Or.inr ⟨by kernel_rfl, ?_⟩) (by assumption) ?_
                   rotate_left
                   · rfl
                   try simp only [Act.put, Array.reduceGetElem, List.setIfInBounds_toArray, List.set_cons_zero, List.set_cons_succ]
                   refine wpAnyH_take (i := 7) (v := ?_) rfl (by kernel_rfl) (by kernel_rfl) (by kernel_rfl) (fun _ _ _ h => h) (Or.inr ⟨by kernel_rfl, ?_⟩) (by assumption) ?_
                   rotate_left
                   · rfl
                   try simp only [Act.put, Array.reduceGetElem, List.setIfInBounds_toArray, List.set_cons_zero, List.set_cons_succ]
                   refine wpAnyH_take (i := 8) (v := ?_) rfl (by kernel_rfl) (by kernel_rfl) (by kernel_rfl) (fun _ _ _ h => h) (Or.inr ⟨by kernel_rfl, ?_⟩) (by assumption) ?_
                   rotate_left
                   · rfl
                   try simp only [Act.put, Array.reduceGetElem, List.setIfInBounds_toArray, List.set_cons_zero, List.set_cons_succ]
                   refine wpAnyH_take (i := 9) (v := ?_) rfl (by kernel_rfl) (by kernel_rfl) (by kernel_rfl) (fun _ _ _ h => h) (Or.inr ⟨by kernel_rfl, ?_⟩) (by assumption) ?_
                   rotate_left
                   · rfl
                   try simp only [Act.put, Array.reduceGetElem, List.setIfInBounds_toArray, List.set_cons_zero, List.set_cons_succ]
                   refine wpAnyH_take (i := 10) (v := ?_) rfl (by kernel_rfl) (by kernel_rfl) (by kernel_rfl) (fun _ _ _ h => h) (Or.inr ⟨by kernel_rfl, ?_⟩) (by assumption) ?_
                   rotate_left
                   · rfl
                   try simp only [Act.put, Array.reduceGetElem, List.setIfInBounds_toArray, List.set_cons_zero, List.set_cons_succ]
                   refine wpAnyH_take (i := 11) (v := ?_) rfl (by kernel_rfl) (by kernel_rfl) (by kernel_rfl) (fun _ _ _ h => h) (Or.inr ⟨by kernel_rfl, ?_⟩) (by assumption) ?_
                   rotate_left
                   · rfl
                   try simp only [Act.put, Array.reduceGetElem, List.setIfInBounds_toArray, List.set_cons_zero, List.set_cons_succ]
                   refine wpAnyH_take (i := 12) (v := ?_) rfl (by kernel_rfl) (by kernel_rfl) (by kernel_rfl) (fun _ _ _ h => h) (Or.inr ⟨by kernel_rfl, ?_⟩) (by assumption) ?_
                   rotate_left
                   · rfl
                   try simp only [Act.put, Array.reduceGetElem, List.setIfInBounds_toArray, List.set_cons_zero, List.set_cons_succ]
                   refine wpAnyH_take (i := 13) (v := ?_) rfl (by kernel_rfl) (by kernel_rfl) (by kernel_rfl) (fun _ _ _ h => h) (Or.inr ⟨by kernel_rfl, ?_⟩) (by assumption) ?_
                   rotate_left
                   · rfl
                   try simp only [Act.put, Array.reduceGetElem, List.setIfInBounds_toArray, List.set_cons_zero, List.set_cons_succ]
                   refine wpAnyH_take (i := 14) (v := ?_) rfl (by kernel_rfl) (by kernel_rfl) (by kernel_rfl) (fun _ _ _ h => h) (Or.inr ⟨by kernel_rfl, ?_⟩) (by assumption) ?_
                   rotate_left
                   · rfl
                   try simp only [Act.put, Array.reduceGetElem, List.setIfInBounds_toArray, List.set_cons_zero, List.set_cons_succ]
                   refine wpAnyH_take (i := 15) (v := ?_) rfl (by kernel_rfl) (by kernel_rfl) (by kernel_rfl) (fun _ _ _ h => h) (Or.inr ⟨by kernel_rfl, ?_⟩) (by assumption) ?_
                   rotate_left
                   · rfl
                   try simp only [Act.put, Array.reduceGetElem, List.setIfInBounds_toArray, List.set_cons_zero, List.set_cons_succ]
                   refine wpAnyH_take (i := 16) (v := ?_) rfl (by kernel_rfl) (by kernel_rfl) (by kernel_rfl) (fun _ _ _ h => h) (Or.inl ⟨by kernel_rfl, ?_⟩) (by assumption) ?_
                   rotate_left
                   · intro w hSw
                     try dsimp only at hSw
                     go_simp
                     all_goals with_reducible rfl
                   try simp only [Act.put, Array.reduceGetElem, List.setIfInBounds_toArray, List.set_cons_zero, List.set_cons_succ]
                   refine wpAnyH_done (by kernel_rfl) ?_ _
                   have HR2 := Lib.hid (Held28.one hHeld1)
                   clear hHeld1 va0 va1 va2 va3 va4 va5 va6 vb0 vb1 vb2 vb3 vb4 vb5 vb6 vc0 vc1 vc2 vc3 vc4 vc5 vc6 bz0 bz1 bz2 bz3 bz4 bz5 bz6 HX9 HR
                   first | refine NoPanic.normal ?_ | skip
                   go_wp2_with fail
                   go_roundw
                   case rel => exact ⟨j + 1, by go_num, by omega, HR2.out⟩
                   case measure => simp [intOf]; omega
               · rename_i hHL
                 obtain ⟨W9, hW9⟩ : ∃ W9, W9 = (((((((w8.setCell ⟨wr.heap.size, 0, none⟩ (.int .i64 x0)).setCell ⟨wr.heap.size, 1, none⟩ (.int .i64 x1)).setCell ⟨wr.heap.size, 2, none⟩ (.int .i64 x2)).setCell ⟨wr.heap.size, 3, none⟩ (.string x3)).setCell ⟨wr.heap.size, 4, none⟩ (.slice G1 x4 x7)).setCell ⟨wr.heap.size, 5, none⟩ (.slice G2 x5 x8)).setCell ⟨wr.heap.size, 6, none⟩ (.slice G3 x6 x9)) := ⟨_, rfl⟩
                 have HR : Hid (Held21 Y W9 g1 g2 g3 (.int .i64 z0) (.int .i64 z1) (.int .i64 z2) (.string z3) (.slice A1 z4 z7) (.slice A2 z5 z8) (.slice A3 z6 z9) (.int .i64 y0) (.int .i64 y1) (.int .i64 y2) (.string y3) (.slice B1 y4 y7) (.slice B2 y5 y8) (.slice B3 y6 y9) (.int .i64 e0) (.int .i64 e1) (.int .i64 e2) (.string e3) (.slice E1 e4 e7) (.slice E2 e5 e8) (.slice E3 e6 e9)) := by rw [hW9]; exact hHL
                 have HX9 : Hid (Held7 W9 wr.heap.size (.int .i64 x0) (.int .i64 x1) (.int .i64 x2) (.string x3) (.slice G1 x4 x7) (.slice G2 x5 x8) (.slice G3 x6 x9)) := by rw [hW9]; exact Held7.of (box_chain (ZeroAt.box hZ.out) (.int .i64 x0) (.int .i64 x1) (.int .i64 x2) (.string x3) (.slice G1 x4 x7) (.slice G2 x5 x8) (.slice G3 x6 x9))
                 have HW9 := Lib.hid hW9
                 clear va0 va1 va2 va3 va4 va5 va6 vb0 vb1 vb2 vb3 vb4 vb5 vb6 vc0 vc1 vc2 vc3 vc4 vc5 vc6 hW9 hHL
                 obtain ⟨_, ⟨va0, va1, va2, va3, va4, va5, va6⟩, ⟨vb0, vb1, vb2, vb3, vb4, vb5, vb6⟩, ⟨vc0, vc1, vc2, vc3, vc4, vc5, vc6⟩⟩ := HR.out
                 try clear bz0 bz1 bz2 bz3 bz4 bz5 bz6 bw0 bw1 bw2 bw3 bw4 bw5 bw6
                 obtain ⟨bz0, bz1, bz2, bz3, bz4, bz5, bz6⟩ := HX9.out
                 have hwr : IntKind.i64.wrap (z1 + (j : Int)) = z1 + (j : Int) := IntWalk.i64_in _ (by omega)
                 by_cases hmx : z1 + (j : Int) ≤ 1000000000
                 · have HMX := Lib.hid hmx
                   have hsum : Between64 (z1 + (j : Int)) := by unfold Between64; omega
                   have HXA : Hid (∀ w, Ats w anyB (encV (nthD (leafD 1 (z1 + (j : Int)) 0 ⟨#[]⟩) d')) [.int .i64 x0, .int .i64 x1, .int .i64 x2, .string x3, .slice G1 x4 x7, .slice G2 x5 x8, .slice G3 x6 x9]) := fun w => by
                     have e := HNTH.out HY4.out HE4.out (j : Int) (by omega) (by omega) hmx
                     have h := HX.out _ (Later.rfl' _)
                     rw [e] at h
                     exact nth_any (by rw [HKD.out, HY4.out]; decide) h w
                   clear HX
                   go_wp2_with fail
                   rw [← HW9.out]
                   go_region_held3 (fun w' => Later Y w' ∧ (w'.cell? ⟨g1, 0, none⟩ = some (.int .i64 z0) ∧ w'.cell? ⟨g1, 1, none⟩ = some (.int .i64 z1) ∧ w'.cell? ⟨g1, 2, none⟩ = some (.int .i64 z2) ∧ w'.cell? ⟨g1, 3, none⟩ = some (.string z3) ∧ w'.cell? ⟨g1, 4, none⟩ = some (.slice A1 z4 z7) ∧ w'.cell? ⟨g1, 5, none⟩ = some (.slice A2 z5 z8) ∧ w'.cell? ⟨g1, 6, none⟩ = some (.slice A3 z6 z9)) ∧ (w'.cell? ⟨g2, 0, none⟩ = some (.int .i64 y0) ∧ w'.cell? ⟨g2, 1, none⟩ = some (.int .i64 y1) ∧ w'.cell? ⟨g2, 2, none⟩ = some (.int .i64 y2) ∧ w'.cell? ⟨g2, 3, none⟩ = some (.string y3) ∧ w'.cell? ⟨g2, 4, none⟩ = some (.slice B1 y4 y7) ∧ w'.cell? ⟨g2, 5, none⟩ = some (.slice B2 y5 y8) ∧ w'.cell? ⟨g2, 6, none⟩ = some (.slice B3 y6 y9)) ∧ (w'.cell? ⟨g3, 0, none⟩ = some (.int .i64 e0) ∧ w'.cell? ⟨g3, 1, none⟩ = some (.int .i64 e1) ∧ w'.cell? ⟨g3, 2, none⟩ = some (.int .i64 e2) ∧ w'.cell? ⟨g3, 3, none⟩ = some (.string e3) ∧ w'.cell? ⟨g3, 4, none⟩ = some (.slice E1 e4 e7) ∧ w'.cell? ⟨g3, 5, none⟩ = some (.slice E2 e5 e8) ∧ w'.cell? ⟨g3, 6, none⟩ = some (.slice E3 e6 e9)) ∧ (w'.cell? ⟨wr.heap.size, 0, none⟩ = some (.int .i64 x0) ∧ w'.cell? ⟨wr.heap.size, 1, none⟩ = some (.int .i64 x1) ∧ w'.cell? ⟨wr.heap.size, 2, none⟩ = some (.int .i64 x2) ∧ w'.cell? ⟨wr.heap.size, 3, none⟩ = some (.string x3) ∧ w'.cell? ⟨wr.heap.size, 4, none⟩ = some (.slice G1 x4 x7) ∧ w'.cell? ⟨wr.heap.size, 5, none⟩ = some (.slice G2 x5 x8) ∧ w'.cell? ⟨wr.heap.size, 6, none⟩ = some (.slice G3 x6 x9)))
                     (first | with_reducible exact Held28.drew HR.out HX9.out | with_reducible exact Held28.on hbk (by assumption) | with_reducible exact Held28.on hbn (by assumption))
                     (first | (go_at_call 26; (with_reducible refine (specNumberValue _ _).mono ?_); rintro r wa ⟨rfl, hbk⟩) | (go_at_call 25; (with_reducible refine (CNV.out _ _ hsum (Held28.one (by assumption))).mono ?_); rintro r wb ⟨⟨m0, m1, m2, m3, M1, m4, m7, M2, m5, m8, M3, m6, m9, rfl, hx⟩, hbn⟩; have HX2 := Lib.hid hx; clear hx) | (go_at_call 15; (with_reducible refine (CR.out _ _ _ _ (HXA.out _) (HX2.out _ (Later.rfl' _))).mono ?_); rintro r wc ⟨rfl, hbk⟩))
                   all_goals
                     (rename_i hHL2
                      have HR2 := Lib.hid (Held28.one hHL2)
                      clear hHL2 va0 va1 va2 va3 va4 va5 va6 vb0 vb1 vb2 vb3 vb4 vb5 vb6 vc0 vc1 vc2 vc3 vc4 vc5 vc6 bz0 bz1 bz2 bz3 bz4 bz5 bz6 HX9 HR
                      go_wp2_with fail
                      go_roundw
                      case rel => exact ⟨j + 1, by go_num, by omega, HR2.out⟩
                      case measure => simp [intOf]; omega)
                 · have hmx2 : decide (z1 + (j : Int) ≤ 1000000000) = false := decide_eq_false hmx
                   go_wp2_with fail
                   rw [← HW9.out]
                   first | refine wp_region_noPanic ?_ | skip
                   refine wp_region_held_drew (S := (fun w' => Later Y w' ∧ (w'.cell? ⟨g1, 0, none⟩ = some (.int .i64 z0) ∧ w'.cell? ⟨g1, 1, none⟩ = some (.int .i64 z1) ∧ w'.cell? ⟨g1, 2, none⟩ = some (.int .i64 z2) ∧ w'.cell? ⟨g1, 3, none⟩ = some (.string z3) ∧ w'.cell? ⟨g1, 4, none⟩ = some (.slice A1 z4 z7) ∧ w'.cell? ⟨g1, 5, none⟩ = some (.slice A2 z5 z8) ∧ w'.cell? ⟨g1, 6, none⟩ = some (.slice A3 z6 z9)) ∧ (w'.cell? ⟨g2, 0, none⟩ = some (.int .i64 y0) ∧ w'.cell? ⟨g2, 1, none⟩ = some (.int .i64 y1) ∧ w'.cell? ⟨g2, 2, none⟩ = some (.int .i64 y2) ∧ w'.cell? ⟨g2, 3, none⟩ = some (.string y3) ∧ w'.cell? ⟨g2, 4, none⟩ = some (.slice B1 y4 y7) ∧ w'.cell? ⟨g2, 5, none⟩ = some (.slice B2 y5 y8) ∧ w'.cell? ⟨g2, 6, none⟩ = some (.slice B3 y6 y9)) ∧ (w'.cell? ⟨g3, 0, none⟩ = some (.int .i64 e0) ∧ w'.cell? ⟨g3, 1, none⟩ = some (.int .i64 e1) ∧ w'.cell? ⟨g3, 2, none⟩ = some (.int .i64 e2) ∧ w'.cell? ⟨g3, 3, none⟩ = some (.string e3) ∧ w'.cell? ⟨g3, 4, none⟩ = some (.slice E1 e4 e7) ∧ w'.cell? ⟨g3, 5, none⟩ = some (.slice E2 e5 e8) ∧ w'.cell? ⟨g3, 6, none⟩ = some (.slice E3 e6 e9)) ∧ (w'.cell? ⟨wr.heap.size, 0, none⟩ = some (.int .i64 x0) ∧ w'.cell? ⟨wr.heap.size, 1, none⟩ = some (.int .i64 x1) ∧ w'.cell? ⟨wr.heap.size, 2, none⟩ = some (.int .i64 x2) ∧ w'.cell? ⟨wr.heap.size, 3, none⟩ = some (.string x3) ∧ w'.cell? ⟨wr.heap.size, 4, none⟩ = some (.slice G1 x4 x7) ∧ w'.cell? ⟨wr.heap.size, 5, none⟩ = some (.slice G2 x5 x8) ∧ w'.cell? ⟨wr.heap.size, 6, none⟩ = some (.slice G3 x6 x9)))) (by kernel_rfl) (by with_reducible exact Held28.drew HR.out HX9.out) (fun hHeld1 => ?_)
                   refine wpAnyH_take (i := 0) (v := ?_) rfl (by kernel_rfl) (by kernel_rfl) (by kernel_rfl) (fun _ _ _ h => h) (Or.inl ⟨by kernel_rfl, ?_⟩) (by assumption) ?_
                   rotate_left
                   · intro w hSw
                     try dsimp only at hSw
                     go_simp
                     all_goals with_reducible rfl
                   try simp only [Act.put, Array.reduceGetElem, List.setIfInBounds_toArray, List.set_cons_zero, List.set_cons_succ]
                   refine wpAnyH_take (i := 1) (v := ?_) rfl (by kernel_rfl) (by kernel_rfl) (by kernel_rfl) (fun _ _ _ h => h) (Or.inl ⟨by kernel_rfl, ?_⟩) (by assumption) ?_
                   rotate_left
                   · intro w hSw
                     try dsimp only at hSw
                     go_simp
                     all_goals with_reducible rfl
                   try simp only [Act.put, Array.reduceGetElem, List.setIfInBounds_toArray, List.set_cons_zero, List.set_cons_succ]
                   refine wpAnyH_take (i := 2) (v := ?_) rfl (by kernel_rfl) (by kernel_rfl) (by kernel_rfl) (fun _ _ _ h => h) (Or.inl ⟨by kernel_rfl, ?_⟩) (by assumption) ?_
                   rotate_left
                   · intro w hSw
                     try dsimp only at hSw
                     go_simp
                     all_goals with_reducible rfl
                   try simp only [Act.put, Array.reduceGetElem, List.setIfInBounds_toArray, List.set_cons_zero, List.set_cons_succ]
                   refine wpAnyH_take (i := 3) (v := ?_) rfl (by kernel_rfl) (by kernel_rfl) (by kernel_rfl) (fun _ _ _ h => h) (Or.inl ⟨by kernel_rfl, ?_⟩) (by assumption) ?_
                   rotate_left
                   · intro w hSw
                     try dsimp only at hSw
                     go_simp
                     all_goals with_reducible rfl
                   try simp only [Act.put, Array.reduceGetElem, List.setIfInBounds_toArray, List.set_cons_zero, List.set_cons_succ]
                   refine wpAnyH_take (i := 4) (v := ?_) rfl (by kernel_rfl) (by kernel_rfl) (by kernel_rfl) (fun _ _ _ h => h) (Or.inl ⟨by kernel_rfl, ?_⟩) (by assumption) ?_
                   rotate_left
                   · intro w hSw
                     try dsimp only at hSw
                     go_simp
                     all_goals with_reducible rfl
                   try simp only [Act.put, Array.reduceGetElem, List.setIfInBounds_toArray, List.set_cons_zero, List.set_cons_succ]
                   refine wpAnyH_take (i := 5) (v := ?_) rfl (by kernel_rfl) (by kernel_rfl) (by kernel_rfl) (fun _ _ _ h => h) (Or.inl ⟨by kernel_rfl, ?_⟩) (by assumption) ?_
                   rotate_left
                   · intro w hSw
                     try dsimp only at hSw
                     go_simp
                     all_goals with_reducible rfl
                   try simp only [Act.put, Array.reduceGetElem, List.setIfInBounds_toArray, List.set_cons_zero, List.set_cons_succ]
                   refine wpAnyH_take (i := 6) (v := ?_) rfl (by kernel_rfl) (by kernel_rfl) (by kernel_rfl) (fun _ _ _ h => h) (Or.inr ⟨by kernel_rfl, ?_⟩) (by assumption) ?_
                   rotate_left
                   · rfl
                   try simp only [Act.put, Array.reduceGetElem, List.setIfInBounds_toArray, List.set_cons_zero, List.set_cons_succ]
                   refine wpAnyH_take (i := 7) (v := ?_) rfl (by kernel_rfl) (by kernel_rfl) (by kernel_rfl) (fun _ _ _ h => h) (Or.inr ⟨by kernel_rfl, ?_⟩) (by assumption) ?_
                   rotate_left
                   · rfl
                   try simp only [Act.put, Array.reduceGetElem, List.setIfInBounds_toArray, List.set_cons_zero, List.set_cons_succ]
                   refine wpAnyH_take (i := 8) (v := ?_) rfl (by kernel_rfl) (by kernel_rfl) (by kernel_rfl) (fun _ _ _ h => h) (Or.inr ⟨by kernel_rfl, ?_⟩) (by assumption) ?_
                   rotate_left
                   · rfl
                   try simp only [Act.put, Array.reduceGetElem, List.setIfInBounds_toArray, List.set_cons_zero, List.set_cons_succ]
                   refine wpAnyH_take (i := 9) (v := ?_) rfl (by kernel_rfl) (by kernel_rfl) (by kernel_rfl) (fun _ _ _ h => h) (Or.inr ⟨by kernel_rfl, ?_⟩) (by assumption) ?_
                   rotate_left
                   · rfl
                   try simp only [Act.put, Array.reduceGetElem, List.setIfInBounds_toArray, List.set_cons_zero, List.set_cons_succ]
                   refine wpAnyH_take (i := 10) (v := ?_) rfl (by kernel_rfl) (by kernel_rfl) (by kernel_rfl) (fun _ _ _ h => h) (Or.inr ⟨by kernel_rfl, ?_⟩) (by assumption) ?_
                   rotate_left
                   · rfl
                   try simp only [Act.put, Array.reduceGetElem, List.setIfInBounds_toArray, List.set_cons_zero, List.set_cons_succ]
                   refine wpAnyH_take (i := 11) (v := ?_) rfl (by kernel_rfl) (by kernel_rfl) (by kernel_rfl) (fun _ _ _ h => h) (Or.inr ⟨by kernel_rfl, ?_⟩) (by assumption) ?_
                   rotate_left
                   · rfl
                   try simp only [Act.put, Array.reduceGetElem, List.setIfInBounds_toArray, List.set_cons_zero, List.set_cons_succ]
                   refine wpAnyH_take (i := 12) (v := ?_) rfl (by kernel_rfl) (by kernel_rfl) (by kernel_rfl) (fun _ _ _ h => h) (Or.inr ⟨by kernel_rfl, ?_⟩) (by assumption) ?_
                   rotate_left
                   · rfl
                   try simp only [Act.put, Array.reduceGetElem, List.setIfInBounds_toArray, List.set_cons_zero, List.set_cons_succ]
                   refine wpAnyH_take (i := 13) (v := ?_) rfl (by kernel_rfl) (by kernel_rfl) (by kernel_rfl) (fun _ _ _ h => h) (Or.inr ⟨by kernel_rfl, ?_⟩) (by assumption) ?_
                   rotate_left
                   · rfl
                   try simp only [Act.put, Array.reduceGetElem, List.setIfInBounds_toArray, List.set_cons_zero, List.set_cons_succ]
                   refine wpAnyH_take (i := 14) (v := ?_) rfl (by kernel_rfl) (by kernel_rfl) (by kernel_rfl) (fun _ _ _ h => h) (Or.inr ⟨by kernel_rfl, ?_⟩) (by assumption) ?_
                   rotate_left
                   · rfl
                   try simp only [Act.put, Array.reduceGetElem, List.setIfInBounds_toArray, List.set_cons_zero, List.set_cons_succ]
                   refine wpAnyH_take (i := 15) (v := ?_) rfl (by kernel_rfl) (by kernel_rfl) (by kernel_rfl) (fun _ _ _ h => h) (Or.inr ⟨by kernel_rfl, ?_⟩) (by assumption) ?_
                   rotate_left
                   · rfl
                   try simp only [Act.put, Array.reduceGetElem, List.setIfInBounds_toArray, List.set_cons_zero, List.set_cons_succ]
                   refine wpAnyH_take (i := 16) (v := ?_) rfl (by kernel_rfl) (by kernel_rfl) (by kernel_rfl) (fun _ _ _ h => h) (Or.inl ⟨by kernel_rfl, ?_⟩) (by assumption) ?_
                   rotate_left
                   · intro w hSw
                     try dsimp only at hSw
                     go_simp
                     all_goals with_reducible rfl
                   try simp only [Act.put, Array.reduceGetElem, List.setIfInBounds_toArray, List.set_cons_zero, List.set_cons_succ]
                   refine wpAnyH_done (by kernel_rfl) ?_ _
                   have HR2 := Lib.hid (Held28.one hHeld1)
                   clear hHeld1 va0 va1 va2 va3 va4 va5 va6 vb0 vb1 vb2 vb3 vb4 vb5 vb6 vc0 vc1 vc2 vc3 vc4 vc5 vc6 bz0 bz1 bz2 bz3 bz4 bz5 bz6 HX9 HR
                   first | refine NoPanic.normal ?_ | skip
                   go_wp2_with fail
                   go_roundw
                   case rel => exact ⟨j + 1, by go_num, by omega, HR2.out⟩
                   case measure => simp [intOf]; omega
             · have : j = 4 := by omega
               subst this
               have hb2 : (e2 == y2) = true := by simp [HST.out]
               go_wp2_with fail
               go_ret
               exact ⟨rfl, HL.out.trans HP.out.1⟩
         · have ex1 : (e0 != 4) = true := by simpa using he4
           clear he4 HPAR
           go_wp2_with fail
           go_region_held3 (fun w' => Later Y w' ∧ (w'.cell? ⟨g1, 0, none⟩ = some (.int .i64 z0) ∧ w'.cell? ⟨g1, 1, none⟩ = some (.int .i64 z1) ∧ w'.cell? ⟨g1, 2, none⟩ = some (.int .i64 z2) ∧ w'.cell? ⟨g1, 3, none⟩ = some (.string z3) ∧ w'.cell? ⟨g1, 4, none⟩ = some (.slice A1 z4 z7) ∧ w'.cell? ⟨g1, 5, none⟩ = some (.slice A2 z5 z8) ∧ w'.cell? ⟨g1, 6, none⟩ = some (.slice A3 z6 z9)) ∧ (w'.cell? ⟨g2, 0, none⟩ = some (.int .i64 y0) ∧ w'.cell? ⟨g2, 1, none⟩ = some (.int .i64 y1) ∧ w'.cell? ⟨g2, 2, none⟩ = some (.int .i64 y2) ∧ w'.cell? ⟨g2, 3, none⟩ = some (.string y3) ∧ w'.cell? ⟨g2, 4, none⟩ = some (.slice B1 y4 y7) ∧ w'.cell? ⟨g2, 5, none⟩ = some (.slice B2 y5 y8) ∧ w'.cell? ⟨g2, 6, none⟩ = some (.slice B3 y6 y9)) ∧ (w'.cell? ⟨g3, 0, none⟩ = some (.int .i64 e0) ∧ w'.cell? ⟨g3, 1, none⟩ = some (.int .i64 e1) ∧ w'.cell? ⟨g3, 2, none⟩ = some (.int .i64 e2) ∧ w'.cell? ⟨g3, 3, none⟩ = some (.string e3) ∧ w'.cell? ⟨g3, 4, none⟩ = some (.slice E1 e4 e7) ∧ w'.cell? ⟨g3, 5, none⟩ = some (.slice E2 e5 e8) ∧ w'.cell? ⟨g3, 6, none⟩ = some (.slice E3 e6 e9)))
             (first | with_reducible exact Held21.drew HP.out | with_reducible exact Held21.on hbk (by assumption))
             (first | (go_at_call 24; (with_reducible refine (CS.out _ (by assumption)).mono ?_); rintro r w5 ⟨⟨x0, x1, x2, x3, G1, x4, x7, G2, x5, x8, G3, x6, x9, rfl, hx⟩, hbk⟩; have HX := Lib.hid hx; clear hx) | (go_at_call 15; (with_reducible refine (CQ.out _ _ (by assumption) (HX.out _ (Later.rfl' _))).mono ?_); rintro r w6 ⟨rfl, hbk⟩))
           all_goals
             (rename_i hHL
              have HE := Lib.hid hHL.1
              clear hHL va0 va1 va2 va3 va4 va5 va6 vb0 vb1 vb2 vb3 vb4 vb5 vb6 vc0 vc1 vc2 vc3 vc4 vc5 vc6 HP
              go_wp2_with fail
              go_ret
              exact ⟨rfl, HL.out.trans HE.out⟩))
    · have ey : (y0 != 4) = true := by simpa using hy4
      clear hy4 HPAR HNTH CNB CNV CR
      first | refine wp_region_noPanic ?_ | skip
      refine wp_region_held_drew (S := (fun w' => Later Y w' ∧ (w'.cell? ⟨g1, 0, none⟩ = some (.int .i64 z0) ∧ w'.cell? ⟨g1, 1, none⟩ = some (.int .i64 z1) ∧ w'.cell? ⟨g1, 2, none⟩ = some (.int .i64 z2) ∧ w'.cell? ⟨g1, 3, none⟩ = some (.string z3) ∧ w'.cell? ⟨g1, 4, none⟩ = some (.slice A1 z4 z7) ∧ w'.cell? ⟨g1, 5, none⟩ = some (.slice A2 z5 z8) ∧ w'.cell? ⟨g1, 6, none⟩ = some (.slice A3 z6 z9)) ∧ (w'.cell? ⟨g2, 0, none⟩ = some (.int .i64 y0) ∧ w'.cell? ⟨g2, 1, none⟩ = some (.int .i64 y1) ∧ w'.cell? ⟨g2, 2, none⟩ = some (.int .i64 y2) ∧ w'.cell? ⟨g2, 3, none⟩ = some (.string y3) ∧ w'.cell? ⟨g2, 4, none⟩ = some (.slice B1 y4 y7) ∧ w'.cell? ⟨g2, 5, none⟩ = some (.slice B2 y5 y8) ∧ w'.cell? ⟨g2, 6, none⟩ = some (.slice B3 y6 y9)) ∧ (w'.cell? ⟨g3, 0, none⟩ = some (.int .i64 e0) ∧ w'.cell? ⟨g3, 1, none⟩ = some (.int .i64 e1) ∧ w'.cell? ⟨g3, 2, none⟩ = some (.int .i64 e2) ∧ w'.cell? ⟨g3, 3, none⟩ = some (.string e3) ∧ w'.cell? ⟨g3, 4, none⟩ = some (.slice E1 e4 e7) ∧ w'.cell? ⟨g3, 5, none⟩ = some (.slice E2 e5 e8) ∧ w'.cell? ⟨g3, 6, none⟩ = some (.slice E3 e6 e9)))) (by kernel_rfl) (by with_reducible exact Held21.drew HP.out) (fun hHeld1 => ?_)
      refine wpAnyH_take (i := 0) (v := ?_) rfl (by kernel_rfl) (by kernel_rfl) (by kernel_rfl) (fun _ _ _ h => h) (Or.inl ⟨by kernel_rfl, ?_⟩) (by assumption) ?_
      rotate_left
      · intro w hSw
        try dsimp only at hSw
        go_simp
        all_goals with_reducible rfl
      try simp only [Act.put, Array.reduceGetElem, List.setIfInBounds_toArray, List.set_cons_zero, List.set_cons_succ]
      refine wpAnyH_take (i := 1) (v := ?_) rfl (by kernel_rfl) (by kernel_rfl) (by kernel_rfl) (fun _ _ _ h => h) (Or.inl ⟨by kernel_rfl, ?_⟩) (by assumption) ?_
      rotate_left
      · intro w hSw
        try dsimp only at hSw
        go_simp
        all_goals with_reducible rfl
      try simp only [Act.put, Array.reduceGetElem, List.setIfInBounds_toArray, List.set_cons_zero, List.set_cons_succ]
      refine wpAnyH_take (i := 2) (v := ?_) rfl (by kernel_rfl) (by kernel_rfl) (by kernel_rfl) (fun _ _ _ h => h) (Or.inl ⟨by kernel_rfl, ?_⟩) (by assumption) ?_
      rotate_left
      · intro w hSw
        try dsimp only at hSw
        go_simp
        all_goals with_reducible rfl
      try simp only [Act.put, Array.reduceGetElem, List.setIfInBounds_toArray, List.set_cons_zero, List.set_cons_succ]
      refine wpAnyH_ready (rs := [3]) (by kernel_rfl) (by simp) ?_
      refine AllReadyH.cons rfl (fun K hK => ?_) AllReadyH.nil
      go_simp
      go_at_call 24
      with_reducible refine (CS.out _ hHeld1).mono ?_
      rintro r w5 ⟨⟨x0, x1, x2, x3, G1, x4, x7, G2, x5, x8, G3, x6, x9, rfl, hx⟩, hbk⟩
      have HX := Lib.hid hx
      clear hx
      refine hK.out _ _ (Held21.on hbk hHeld1) (fun hHeld2 => ?_)
      clear hK K hHeld1
      try simp only [Act.put, Array.reduceGetElem, List.setIfInBounds_toArray, List.set_cons_zero, List.set_cons_succ]
      refine wpAnyH_ready (rs := [4]) (by kernel_rfl) (by simp) ?_
      refine AllReadyH.cons rfl (fun K hK => ?_) AllReadyH.nil
      go_simp
      go_at_call 15
      with_reducible refine (CQ.out _ _ hHeld2 (HX.out _ (Later.rfl' _))).mono ?_
      rintro r w6 ⟨rfl, hbk⟩
      refine hK.out _ _ (Held21.on hbk hHeld2) (fun hHeld3 => ?_)
      clear hK K hHeld2
      try simp only [Act.put, Array.reduceGetElem, List.setIfInBounds_toArray, List.set_cons_zero, List.set_cons_succ]
      refine wpAnyH_take (i := 5) (v := ?_) rfl (by kernel_rfl) (by kernel_rfl) (by kernel_rfl) (fun _ _ _ h => h) (Or.inl ⟨by kernel_rfl, ?_⟩) (by assumption) ?_
      rotate_left
      · intro w hSw
        try dsimp only at hSw
        go_simp
        all_goals with_reducible rfl
      try simp only [Act.put, Array.reduceGetElem, List.setIfInBounds_toArray, List.set_cons_zero, List.set_cons_succ]
      refine wpAnyH_take (i := 6) (v := ?_) rfl (by kernel_rfl) (by kernel_rfl) (by kernel_rfl) (fun _ _ _ h => h) (Or.inl ⟨by kernel_rfl, ?_⟩) (by assumption) ?_
      rotate_left
      · intro w hSw
        try dsimp only at hSw
        go_simp
        all_goals with_reducible rfl
      try simp only [Act.put, Array.reduceGetElem, List.setIfInBounds_toArray, List.set_cons_zero, List.set_cons_succ]
      refine wpAnyH_take (i := 7) (v := ?_) rfl (by kernel_rfl) (by kernel_rfl) (by kernel_rfl) (fun _ _ _ h => h) (Or.inl ⟨by kernel_rfl, ?_⟩) (by assumption) ?_
      rotate_left
      · intro w hSw
        try dsimp only at hSw
        go_simp
        all_goals with_reducible rfl
      try simp only [Act.put, Array.reduceGetElem, List.setIfInBounds_toArray, List.set_cons_zero, List.set_cons_succ]
      refine wpAnyH_take (i := 8) (v := ?_) rfl (by kernel_rfl) (by kernel_rfl) (by kernel_rfl) (fun _ _ _ h => h) (Or.inl ⟨by kernel_rfl, ?_⟩) (by assumption) ?_
      rotate_left
      · intro w hSw
        try dsimp only at hSw
        go_simp
        all_goals with_reducible rfl
      try simp only [Act.put, Array.reduceGetElem, List.setIfInBounds_toArray, List.set_cons_zero, List.set_cons_succ]
      refine wpAnyH_take (i := 9) (v := ?_) rfl (by kernel_rfl) (by kernel_rfl) (by kernel_rfl) (fun _ _ _ h => h) (Or.inl ⟨by kernel_rfl, ?_⟩) (by assumption) ?_
      rotate_left
      · intro w hSw
        try dsimp only at hSw
        go_simp
        all_goals with_reducible rfl
      try simp only [Act.put, Array.reduceGetElem, List.setIfInBounds_toArray, List.set_cons_zero, List.set_cons_succ]
      refine wpAnyH_take (i := 10) (v := ?_) rfl (by kernel_rfl) (by kernel_rfl) (by kernel_rfl) (fun _ _ _ h => h) (Or.inl ⟨by kernel_rfl, ?_⟩) (by assumption) ?_
      rotate_left
      · intro w hSw
        try dsimp only at hSw
        go_simp
        all_goals with_reducible rfl
      try simp only [Act.put, Array.reduceGetElem, List.setIfInBounds_toArray, List.set_cons_zero, List.set_cons_succ]
      refine wpAnyH_take (i := 11) (v := ?_) rfl (by kernel_rfl) (by kernel_rfl) (by kernel_rfl) (fun _ _ _ h => h) (Or.inl ⟨by kernel_rfl, ?_⟩) (by assumption) ?_
      rotate_left
      · intro w hSw
        try dsimp only at hSw
        go_simp
        all_goals with_reducible rfl
      try simp only [Act.put, Array.reduceGetElem, List.setIfInBounds_toArray, List.set_cons_zero, List.set_cons_succ]
      refine wpAnyH_take (i := 12) (v := ?_) rfl (by kernel_rfl) (by kernel_rfl) (by kernel_rfl) (fun _ _ _ h => h) (Or.inr ⟨by kernel_rfl, ?_⟩) (by assumption) ?_
      rotate_left
      · rfl
      try simp only [Act.put, Array.reduceGetElem, List.setIfInBounds_toArray, List.set_cons_zero, List.set_cons_succ]
      refine wpAnyH_take (i := 13) (v := ?_) rfl (by kernel_rfl) (by kernel_rfl) (by kernel_rfl) (fun _ _ _ h => h) (Or.inr ⟨by kernel_rfl, ?_⟩) (by assumption) ?_
      rotate_left
      · rfl
      try simp only [Act.put, Array.reduceGetElem, List.setIfInBounds_toArray, List.set_cons_zero, List.set_cons_succ]
      refine wpAnyH_take (i := 14) (v := ?_) rfl (by kernel_rfl) (by kernel_rfl) (by kernel_rfl) (fun _ _ _ h => h) (Or.inr ⟨by kernel_rfl, ?_⟩) (by assumption) ?_
      rotate_left
      · rfl
      try simp only [Act.put, Array.reduceGetElem, List.setIfInBounds_toArray, List.set_cons_zero, List.set_cons_succ]
      refine wpAnyH_take (i := 15) (v := ?_) rfl (by kernel_rfl) (by kernel_rfl) (by kernel_rfl) (fun _ _ _ h => h) (Or.inl ⟨by kernel_rfl, ?_⟩) (by assumption) ?_
      rotate_left
      · intro w hSw
        try dsimp only at hSw
        go_simp
        all_goals with_reducible rfl
      try simp only [Act.put, Array.reduceGetElem, List.setIfInBounds_toArray, List.set_cons_zero, List.set_cons_succ]
      refine wpAnyH_done (by kernel_rfl) ?_ _
      replace HP := Lib.hid hHeld3
      clear hHeld3 va0 va1 va2 va3 va4 va5 va6 vb0 vb1 vb2 vb3 vb4 vb5 vb6 vc0 vc1 vc2 vc3 vc4 vc5 vc6 HX
      obtain ⟨_, ⟨va0, va1, va2, va3, va4, va5, va6⟩, ⟨vb0, vb1, vb2, vb3, vb4, vb5, vb6⟩, ⟨vc0, vc1, vc2, vc3, vc4, vc5, vc6⟩⟩ := HP.out
      first | refine NoPanic.normal ?_ | skip
      go_wp2_with fail
      go_region_held3 (fun w' => Later Y w' ∧ (w'.cell? ⟨g1, 0, none⟩ = some (.int .i64 z0) ∧ w'.cell? ⟨g1, 1, none⟩ = some (.int .i64 z1) ∧ w'.cell? ⟨g1, 2, none⟩ = some (.int .i64 z2) ∧ w'.cell? ⟨g1, 3, none⟩ = some (.string z3) ∧ w'.cell? ⟨g1, 4, none⟩ = some (.slice A1 z4 z7) ∧ w'.cell? ⟨g1, 5, none⟩ = some (.slice A2 z5 z8) ∧ w'.cell? ⟨g1, 6, none⟩ = some (.slice A3 z6 z9)) ∧ (w'.cell? ⟨g2, 0, none⟩ = some (.int .i64 y0) ∧ w'.cell? ⟨g2, 1, none⟩ = some (.int .i64 y1) ∧ w'.cell? ⟨g2, 2, none⟩ = some (.int .i64 y2) ∧ w'.cell? ⟨g2, 3, none⟩ = some (.string y3) ∧ w'.cell? ⟨g2, 4, none⟩ = some (.slice B1 y4 y7) ∧ w'.cell? ⟨g2, 5, none⟩ = some (.slice B2 y5 y8) ∧ w'.cell? ⟨g2, 6, none⟩ = some (.slice B3 y6 y9)) ∧ (w'.cell? ⟨g3, 0, none⟩ = some (.int .i64 e0) ∧ w'.cell? ⟨g3, 1, none⟩ = some (.int .i64 e1) ∧ w'.cell? ⟨g3, 2, none⟩ = some (.int .i64 e2) ∧ w'.cell? ⟨g3, 3, none⟩ = some (.string e3) ∧ w'.cell? ⟨g3, 4, none⟩ = some (.slice E1 e4 e7) ∧ w'.cell? ⟨g3, 5, none⟩ = some (.slice E2 e5 e8) ∧ w'.cell? ⟨g3, 6, none⟩ = some (.slice E3 e6 e9)))
        (first | with_reducible exact Held21.drew HP.out | with_reducible exact Held21.on hbk (by assumption))
        (first | (go_at_call 24; (with_reducible refine (CS.out _ (by assumption)).mono ?_); rintro r w5 ⟨⟨x0, x1, x2, x3, G1, x4, x7, G2, x5, x8, G3, x6, x9, rfl, hx⟩, hbk⟩; have HX := Lib.hid hx; clear hx) | (go_at_call 15; (with_reducible refine (CQ.out _ _ (by assumption) (HX.out _ (Later.rfl' _))).mono ?_); rintro r w6 ⟨rfl, hbk⟩))
      all_goals
        (rename_i hHL
         have HE := Lib.hid hHL.1
         clear hHL va0 va1 va2 va3 va4 va5 va6 vb0 vb1 vb2 vb3 vb4 vb5 vb6 vc0 vc1 vc2 vc3 vc4 vc5 vc6 HP
         go_wp2_with fail
         go_ret
         exact ⟨rfl, HL.out.trans HE.out⟩)

end Go.Proofs.Ytghemlokpfipoaa
