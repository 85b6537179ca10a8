/-
  DrawEqualValue; the law FnValues: the walks.
-/
import Derived.Test.YtghemlokpfipoaaYVP
import Derived.Test.YtghemlokpfipoaaYVL
import Derived.Test.YtghemlokpfipoaaYV2
import Derived.Test.YtghemlokpfipoaaYMN6
import Derived.Deep.RegionHeld3
namespace Go.Proofs.Ytghemlokpfipoaa
open Go.ChangeShapes Go.WideShapes Go.ChangeAt Go.RowKit
set_option linter.unusedVariables false
set_option linter.unusedSimpArgs false
set_option maxRecDepth 100000

/-- Two drawn values, as they lie. -/
def PairOut (M : Nat) (w' : World) (r : Ending) : Prop := ∃ d d' z0 z1 z2 z3 A1 z4 z7 A2 z5 z8 A3 z6 z9 y0 y1 y2 y3 B1 y4 y7 B2 y5 y8 B3 y6 y9,
  r = .returned (.tuple #[.agg #[.int .i64 z0, .int .i64 z1, .int .i64 z2, .string z3, .slice A1 z4 z7, .slice A2 z5 z8, .slice A3 z6 z9], .agg #[.int .i64 y0, .int .i64 y1, .int .i64 y2, .string y3, .slice B1 y4 y7, .slice B2 y5 y8, .slice B3 y6 y9]]) ∧
  Ats w' anyB (encV d) [.int .i64 z0, .int .i64 z1, .int .i64 z2, .string z3, .slice A1 z4 z7, .slice A2 z5 z8, .slice A3 z6 z9] ∧
  Ats w' anyB (encV d') [.int .i64 y0, .int .i64 y1, .int .i64 y2, .string y3, .slice B1 y4 y7, .slice B2 y5 y8, .slice B3 y6 y9] ∧ d.cost ≤ M ∧ d'.cost ≤ M
/-- Two variables' cells, and all that lay at X. -/
abbrev HeldP (X w : World) (H H' : Nat) (c0 c1 c2 c3 c4 c5 c6 d0 d1 d2 d3 d4 d5 d6 : Value) : Prop := Later X w ∧ Held7 w H c0 c1 c2 c3 c4 c5 c6 ∧ Held7 w H' d0 d1 d2 d3 d4 d5 d6
theorem Held7.later {w w' : World} (hb : Later w w') {H : Nat} {c0 c1 c2 c3 c4 c5 c6 : Value} (h : Held7 w H c0 c1 c2 c3 c4 c5 c6) : Held7 w' H c0 c1 c2 c3 c4 c5 c6 :=
  ⟨kept_cell hb h.1, kept_cell hb h.2.1, kept_cell hb h.2.2.1, kept_cell hb h.2.2.2.1, kept_cell hb h.2.2.2.2.1, kept_cell hb h.2.2.2.2.2.1, kept_cell hb h.2.2.2.2.2.2⟩
theorem HeldP.on {X w w' : World} (hb : Later w w') {H H' : Nat} {c0 c1 c2 c3 c4 c5 c6 d0 d1 d2 d3 d4 d5 d6 : Value} (h : HeldP X w H H' c0 c1 c2 c3 c4 c5 c6 d0 d1 d2 d3 d4 d5 d6) : HeldP X w' H H' c0 c1 c2 c3 c4 c5 c6 d0 d1 d2 d3 d4 d5 d6 :=
  ⟨h.1.trans hb, h.2.1.later hb, h.2.2.later hb⟩
theorem HeldP.drew {X w : World} {H H' : Nat} {c0 c1 c2 c3 c4 c5 c6 d0 d1 d2 d3 d4 d5 d6 : Value} (h : HeldP X w H H' c0 c1 c2 c3 c4 c5 c6 d0 d1 d2 d3 d4 d5 d6) : HeldP X w.drew H H' c0 c1 c2 c3 c4 c5 c6 d0 d1 d2 d3 d4 d5 d6 := h.on (Later.rfl' _).drew
theorem size_pos (d : Vl) : 1 ≤ d.size := by
  obtain ⟨k, n, s, t, l, c, r, rfl⟩ := Vl.shape d
  rw [Vl.size]
  omega

set_option maxHeartbeats 4000000 in
theorem drawEqualValue (v : Value) (n : Nat) (W : World) (h : BytesAt W v n) (hn : n ≤ 1048576) : Calls Try.prog 13 #[v] W fun r w' => PairOut 122000 w' r ∧ Later W w' := by
  have HN := Lib.hid (drawNew v n ((W.alloc (.cells #[.int .i64 0, .int .i64 0, .int .i64 0, .string ⟨#[]⟩, .slice none 0 0, .slice none 0 0, .slice none 0 0] 28)).alloc (.cells #[.int .i64 0, .int .i64 0, .int .i64 0, .string ⟨#[]⟩, .slice none 0 0, .slice none 0 0, .slice none 0 0] 28)) (h.later (((Later.rfl' _).alloc _).alloc _)) hn)
  clear h hn
  go_enter Try.func13, Try.ntmps13
  go_wp2_with fail
  refine HN.out.mono ?_; rintro e w1 ⟨⟨g, rfl, hg, hc⟩, hb1⟩
  have HC := Lib.hid hc; have HB := Lib.hid hb1; have HG := Lib.hid hg
  clear hc hb1 hg HN
  go_wp2_with fail
  refine (drawPair3 g _ HC.out).mono ?_; rintro e w3 ⟨⟨d, d', z0, z1, z2, z3, A1, z4, z7, A2, z5, z8, A3, z6, z9, y0, y1, y2, y3, B1, y4, y7, B2, y5, y8, B3, y6, y9, rfl, hz, hy, hM, hM'⟩, hcu, hch⟩
  have hgs := HG.out
  have hzb := HB.out.size
  rw [World.size_alloc, World.size_alloc] at hgs hzb
  have hR : Box w3 W.heap.size [.int .i64 0, .int .i64 0, .int .i64 0, .string ⟨#[]⟩, .slice none 0 0, .slice none 0 0, .slice none 0 0] := (((box_alloc W #[.int .i64 0, .int .i64 0, .int .i64 0, .string ⟨#[]⟩, .slice none 0 0, .slice none 0 0, .slice none 0 0] 28).later ((Later.rfl' _).alloc _)).later HB.out).chg hch fun h => by unfold onlyB at h; omega
  have hQ : Box w3 (W.heap.size + 1) [.int .i64 0, .int .i64 0, .int .i64 0, .string ⟨#[]⟩, .slice none 0 0, .slice none 0 0, .slice none 0 0] := by
    have h := ((box_alloc (W.alloc (.cells #[.int .i64 0, .int .i64 0, .int .i64 0, .string ⟨#[]⟩, .slice none 0 0, .slice none 0 0, .slice none 0 0] 28)) #[.int .i64 0, .int .i64 0, .int .i64 0, .string ⟨#[]⟩, .slice none 0 0, .slice none 0 0, .slice none 0 0] 28).later HB.out).chg hch fun h => by unfold onlyB at h; rw [World.size_alloc] at h; omega
    rw [World.size_alloc] at h
    exact h
  obtain ⟨r0, r1, r2, r3, r4, r5, r6, f0, f1, f2, f3, f4, f5, f6⟩ := box_seven hR
  obtain ⟨q0, q1, q2, q3, q4, q5, q6, e0, e1, e2, e3, e4, e5, e6⟩ := box_seven hQ
  have hrz := hR.lt
  have hqz := hQ.lt
  have c := put_two w3 W.heap.size [.int .i64 z0, .int .i64 z1, .int .i64 z2, .string z3, .slice A1 z4 z7, .slice A2 z5 z8, .slice A3 z6 z9] [.int .i64 y0, .int .i64 y1, .int .i64 y2, .string y3, .slice B1 y4 y7, .slice B2 y5 y8, .slice B3 y6 y9]
  have HZ := Lib.hid ((hz.chg c fun b h1 h2 => by omega).any); have HY := Lib.hid ((hy.chg c fun b h1 h2 => by omega).any)
  have HM := Lib.hid hM; have HM2 := Lib.hid hM'
  have HL := Lib.hid (Chg.later ((((Later.rfl' W).alloc _).alloc _).trans HB.out) (hch.trans (Chg.rfl' _ _)) (fun k hk => by unfold onlyB at hk; omega))
  have HL2 := Lib.hid (Chg.later HL.out c fun k hk => by omega)
  clear hR hQ hz hy hM hM' c hcu hch HC HB HG hgs hzb HL
  go_wp2_with fail
  exact bodyPost_ret (v := .tuple #[.agg #[.int .i64 z0, .int .i64 z1, .int .i64 z2, .string z3, .slice A1 z4 z7, .slice A2 z5 z8, .slice A3 z6 z9], .agg #[.int .i64 y0, .int .i64 y1, .int .i64 y2, .string y3, .slice B1 y4 y7, .slice B2 y5 y8, .slice B3 y6 y9]]) (by simp [results, Try.results13, go_sem, r0, r1, r2, r3, r4, r5, r6, q0, q1, q2, q3, q4, q5, q6]) rfl ⟨⟨d, d', _, _, _, _, _, _, _, _, _, _, _, _, _, _, _, _, _, _, _, _, _, _, _, _, _, _, rfl, HZ.out, HY.out, HM.out, HM2.out⟩, HL2.out⟩


set_option maxHeartbeats 40000000 in
theorem walk_FnValues (v : Value) (n : Nat) (w : World) (h : BytesAt w v n) : Calls Try.prog 3 #[v] w fun r w' => r = .returned (.bool true) ∧ Later w w' := by
  by_cases hbig : 1048576 < n
  · have C0 := bigBytes v n w h
    rw [show decide (1048576 < n) = true by simp; omega] at C0
    have HB := Lib.hid C0
    clear C0 hbig h
    go_enter Try.func3, Try.ntmps3
    go_wp2_with fail
    refine HB.out.mono ?_; rintro e w1 ⟨rfl, hb1⟩
    go_wp2_with fail
    go_ret
    exact ⟨rfl, hb1⟩
  · have C0 := bigBytes v n w h
    rw [show decide (1048576 < n) = false by simp; omega] at C0
    have hle : n ≤ 1048576 := by omega
    have C1 := fun W (hW : Later w W) => drawEqualValue v n W (BytesAt.later h hW) hle
    have HB := Lib.hid C0; have HD := Lib.hid C1
    clear C0 C1 hbig hle h
    go_enter Try.func3, Try.ntmps3
    go_wp2_with fail
    refine HB.out.mono ?_; rintro e w1 ⟨rfl, hb⟩
    have L := Lib.hid hb; clear hb HB
    go_wp2_with fail
    refine (HD.out _ L.out).mono ?_; rintro e w2 ⟨⟨d, d', z0, z1, z2, z3, A1, z4, z7, A2, z5, z8, A3, z6, z9, y0, y1, y2, y3, B1, y4, y7, B2, y5, y8, B3, y6, y9, rfl, hz, hy, hM, hM'⟩, hb⟩
    obtain ⟨X, hX⟩ : ∃ X, X = (w2.alloc (.cells #[.int .i64 z0, .int .i64 z1, .int .i64 z2, .string z3, .slice A1 z4 z7, .slice A2 z5 z8, .slice A3 z6 z9] 28)).alloc (.cells #[.int .i64 y0, .int .i64 y1, .int .i64 y2, .string y3, .slice B1 y4 y7, .slice B2 y5 y8, .slice B3 y6 y9] 28) := ⟨_, rfl⟩
    have hl : Later w2 X := by rw [hX]; exact ((Later.rfl' _).alloc _).alloc _
    have hB : Box X w2.heap.size [.int .i64 z0, .int .i64 z1, .int .i64 z2, .string z3, .slice A1 z4 z7, .slice A2 z5 z8, .slice A3 z6 z9] := by rw [hX]; exact (box_alloc w2 #[.int .i64 z0, .int .i64 z1, .int .i64 z2, .string z3, .slice A1 z4 z7, .slice A2 z5 z8, .slice A3 z6 z9] 28).later ((Later.rfl' _).alloc _)
    have hB' : Box X (w2.heap.size + 1) [.int .i64 y0, .int .i64 y1, .int .i64 y2, .string y3, .slice B1 y4 y7, .slice B2 y5 y8, .slice B3 y6 y9] := by
      rw [hX]
      have h := box_alloc (w2.alloc (.cells #[.int .i64 z0, .int .i64 z1, .int .i64 z2, .string z3, .slice A1 z4 z7, .slice A2 z5 z8, .slice A3 z6 z9] 28)) #[.int .i64 y0, .int .i64 y1, .int .i64 y2, .string y3, .slice B1 y4 y7, .slice B2 y5 y8, .slice B3 y6 y9] 28
      rw [World.size_alloc] at h
      exact h
    have HL := Lib.hid ((L.out.trans hb).trans hl)
    have HZ := Lib.hid (hz.later hl); have HY := Lib.hid (hy.later hl)
    have HP : Hid (HeldP X X w2.heap.size (w2.heap.size + 1) (.int .i64 z0) (.int .i64 z1) (.int .i64 z2) (.string z3) (.slice A1 z4 z7) (.slice A2 z5 z8) (.slice A3 z6 z9) (.int .i64 y0) (.int .i64 y1) (.int .i64 y2) (.string y3) (.slice B1 y4 y7) (.slice B2 y5 y8) (.slice B3 y6 y9)) := ⟨Later.rfl' _, Held7.of hB, Held7.of hB'⟩
    have HXX := Lib.hid hX
    have HM := Lib.hid (show d.cost ≤ 1099511627776 by omega); have HM' := Lib.hid (show d'.cost ≤ 1099511627776 by omega)
    clear hb L HD hl hB hB' hz hy hM hM' hX
    obtain ⟨q, hq⟩ : ∃ q, q = Vl.same true d d' := ⟨_, rfl⟩
    cases q with
    | true =>
      have := vl_same_eq _ _ hq.symm
      subst this
      clear hq HM'
      have HE1 : Hid (∀ W', HeldP X W' w2.heap.size (w2.heap.size + 1) (.int .i64 z0) (.int .i64 z1) (.int .i64 z2) (.string z3) (.slice A1 z4 z7) (.slice A2 z5 z8) (.slice A3 z6 z9) (.int .i64 y0) (.int .i64 y1) (.int .i64 y2) (.string y3) (.slice B1 y4 y7) (.slice B2 y5 y8) (.slice B3 y6 y9) → Calls Try.prog 14 #[.agg #[.int .i64 z0, .int .i64 z1, .int .i64 z2, .string z3, .slice A1 z4 z7, .slice A2 z5 z8, .slice A3 z6 z9], .agg #[.int .i64 y0, .int .i64 y1, .int .i64 y2, .string y3, .slice B1 y4 y7, .slice B2 y5 y8, .slice B3 y6 y9]] W' fun r w' => r = .returned (.bool true) ∧ Later W' w') := fun W' h => by have := implEqualValue d d W' anyB anyB _ _ (HZ.out.later h.1) (HY.out.later h.1); rw [vl_same_self] at this; exact this
      have HE2 : Hid (∀ W', HeldP X W' w2.heap.size (w2.heap.size + 1) (.int .i64 z0) (.int .i64 z1) (.int .i64 z2) (.string z3) (.slice A1 z4 z7) (.slice A2 z5 z8) (.slice A3 z6 z9) (.int .i64 y0) (.int .i64 y1) (.int .i64 y2) (.string y3) (.slice B1 y4 y7) (.slice B2 y5 y8) (.slice B3 y6 y9) → Calls Try.prog 15 #[.agg #[.int .i64 z0, .int .i64 z1, .int .i64 z2, .string z3, .slice A1 z4 z7, .slice A2 z5 z8, .slice A3 z6 z9], .agg #[.int .i64 y0, .int .i64 y1, .int .i64 y2, .string y3, .slice B1 y4 y7, .slice B2 y5 y8, .slice B3 y6 y9]] W' fun r w' => r = .returned (.bool true) ∧ Later W' w') := fun W' h => by have := specEqualValue d d W' anyB anyB _ _ (HZ.out.later h.1) (HY.out.later h.1); rw [vl_same_self] at this; exact this
      have HE3 : Hid (∀ W', HeldP X W' w2.heap.size (w2.heap.size + 1) (.int .i64 z0) (.int .i64 z1) (.int .i64 z2) (.string z3) (.slice A1 z4 z7) (.slice A2 z5 z8) (.slice A3 z6 z9) (.int .i64 y0) (.int .i64 y1) (.int .i64 y2) (.string y3) (.slice B1 y4 y7) (.slice B2 y5 y8) (.slice B3 y6 y9) → Calls Try.prog 14 #[.agg #[.int .i64 y0, .int .i64 y1, .int .i64 y2, .string y3, .slice B1 y4 y7, .slice B2 y5 y8, .slice B3 y6 y9], .agg #[.int .i64 z0, .int .i64 z1, .int .i64 z2, .string z3, .slice A1 z4 z7, .slice A2 z5 z8, .slice A3 z6 z9]] W' fun r w' => r = .returned (.bool true) ∧ Later W' w') := fun W' h => by have := implEqualValue d d W' anyB anyB _ _ (HY.out.later h.1) (HZ.out.later h.1); rw [vl_same_self] at this; exact this
      have HE4 : Hid (∀ W', HeldP X W' w2.heap.size (w2.heap.size + 1) (.int .i64 z0) (.int .i64 z1) (.int .i64 z2) (.string z3) (.slice A1 z4 z7) (.slice A2 z5 z8) (.slice A3 z6 z9) (.int .i64 y0) (.int .i64 y1) (.int .i64 y2) (.string y3) (.slice B1 y4 y7) (.slice B2 y5 y8) (.slice B3 y6 y9) → Calls Try.prog 14 #[.agg #[.int .i64 z0, .int .i64 z1, .int .i64 z2, .string z3, .slice A1 z4 z7, .slice A2 z5 z8, .slice A3 z6 z9], .agg #[.int .i64 z0, .int .i64 z1, .int .i64 z2, .string z3, .slice A1 z4 z7, .slice A2 z5 z8, .slice A3 z6 z9]] W' fun r w' => r = .returned (.bool true) ∧ Later W' w') := fun W' h => by have := implEqualValue d d W' anyB anyB _ _ (HZ.out.later h.1) (HZ.out.later h.1); rw [vl_same_self] at this; exact this
      have HE5 : Hid (∀ W', HeldP X W' w2.heap.size (w2.heap.size + 1) (.int .i64 z0) (.int .i64 z1) (.int .i64 z2) (.string z3) (.slice A1 z4 z7) (.slice A2 z5 z8) (.slice A3 z6 z9) (.int .i64 y0) (.int .i64 y1) (.int .i64 y2) (.string y3) (.slice B1 y4 y7) (.slice B2 y5 y8) (.slice B3 y6 y9) → Calls Try.prog 16 #[.agg #[.int .i64 y0, .int .i64 y1, .int .i64 y2, .string y3, .slice B1 y4 y7, .slice B2 y5 y8, .slice B3 y6 y9], .agg #[.int .i64 y0, .int .i64 y1, .int .i64 y2, .string y3, .slice B1 y4 y7, .slice B2 y5 y8, .slice B3 y6 y9]] W' fun r w' => r = .returned (.bool true) ∧ Later W' w') := fun W' h => by have := implEqualShown d d W' anyB anyB _ _ (HY.out.later h.1) (HY.out.later h.1); rw [vl_same_self] at this; exact this
      have HE6 : Hid (∀ W', HeldP X W' w2.heap.size (w2.heap.size + 1) (.int .i64 z0) (.int .i64 z1) (.int .i64 z2) (.string z3) (.slice A1 z4 z7) (.slice A2 z5 z8) (.slice A3 z6 z9) (.int .i64 y0) (.int .i64 y1) (.int .i64 y2) (.string y3) (.slice B1 y4 y7) (.slice B2 y5 y8) (.slice B3 y6 y9) → Calls Try.prog 16 #[.agg #[.int .i64 z0, .int .i64 z1, .int .i64 z2, .string z3, .slice A1 z4 z7, .slice A2 z5 z8, .slice A3 z6 z9], .agg #[.int .i64 y0, .int .i64 y1, .int .i64 y2, .string y3, .slice B1 y4 y7, .slice B2 y5 y8, .slice B3 y6 y9]] W' fun r w' => r = .returned (.bool true) ∧ Later W' w') := fun W' h => by have := implEqualShown d d W' anyB anyB _ _ (HZ.out.later h.1) (HY.out.later h.1); rw [vl_same_self] at this; exact this
      have HS1 : Hid (∀ W', HeldP X W' w2.heap.size (w2.heap.size + 1) (.int .i64 z0) (.int .i64 z1) (.int .i64 z2) (.string z3) (.slice A1 z4 z7) (.slice A2 z5 z8) (.slice A3 z6 z9) (.int .i64 y0) (.int .i64 y1) (.int .i64 y2) (.string y3) (.slice B1 y4 y7) (.slice B2 y5 y8) (.slice B3 y6 y9) → Calls Try.prog 17 #[.agg #[.int .i64 z0, .int .i64 z1, .int .i64 z2, .string z3, .slice A1 z4 z7, .slice A2 z5 z8, .slice A3 z6 z9]] W' fun r w' => r = .returned (.int .i64 (d.size : Int)) ∧ Later W' w') := fun W' h => implSizeOf d HM.out W' anyB _ (HZ.out.later h.1)
      have HS2 : Hid (∀ W', HeldP X W' w2.heap.size (w2.heap.size + 1) (.int .i64 z0) (.int .i64 z1) (.int .i64 z2) (.string z3) (.slice A1 z4 z7) (.slice A2 z5 z8) (.slice A3 z6 z9) (.int .i64 y0) (.int .i64 y1) (.int .i64 y2) (.string y3) (.slice B1 y4 y7) (.slice B2 y5 y8) (.slice B3 y6 y9) → Calls Try.prog 17 #[.agg #[.int .i64 y0, .int .i64 y1, .int .i64 y2, .string y3, .slice B1 y4 y7, .slice B2 y5 y8, .slice B3 y6 y9]] W' fun r w' => r = .returned (.int .i64 (d.size : Int)) ∧ Later W' w') := fun W' h => implSizeOf d HM.out W' anyB _ (HY.out.later h.1)
      have HV1 : Hid (∀ W', HeldP X W' w2.heap.size (w2.heap.size + 1) (.int .i64 z0) (.int .i64 z1) (.int .i64 z2) (.string z3) (.slice A1 z4 z7) (.slice A2 z5 z8) (.slice A3 z6 z9) (.int .i64 y0) (.int .i64 y1) (.int .i64 y2) (.string y3) (.slice B1 y4 y7) (.slice B2 y5 y8) (.slice B3 y6 y9) → Calls Try.prog 18 #[.agg #[.int .i64 z0, .int .i64 z1, .int .i64 z2, .string z3, .slice A1 z4 z7, .slice A2 z5 z8, .slice A3 z6 z9]] W' fun r w' => r = .returned (.bool d.valid) ∧ Later W' w') := fun W' h => implValid d HM.out W' anyB _ (HZ.out.later h.1)
      have HV2 : Hid (∀ W', HeldP X W' w2.heap.size (w2.heap.size + 1) (.int .i64 z0) (.int .i64 z1) (.int .i64 z2) (.string z3) (.slice A1 z4 z7) (.slice A2 z5 z8) (.slice A3 z6 z9) (.int .i64 y0) (.int .i64 y1) (.int .i64 y2) (.string y3) (.slice B1 y4 y7) (.slice B2 y5 y8) (.slice B3 y6 y9) → Calls Try.prog 18 #[.agg #[.int .i64 y0, .int .i64 y1, .int .i64 y2, .string y3, .slice B1 y4 y7, .slice B2 y5 y8, .slice B3 y6 y9]] W' fun r w' => r = .returned (.bool d.valid) ∧ Later W' w') := fun W' h => implValid d HM.out W' anyB _ (HY.out.later h.1)
      have hsz := size_pos d
      obtain ⟨z, hz⟩ : ∃ z, z = d.size := ⟨_, rfl⟩
      obtain ⟨b, hb⟩ : ∃ b, b = d.valid := ⟨_, rfl⟩
      rw [← hz] at HS1 HS2 hsz
      rw [← hb] at HV1 HV2
      have hz1 : (1 : Int) ≤ (z : Int) := by omega
      clear hsz hz hb HZ HY HM
      go_wp2_with fail
      rw [← HXX.out]
      clear HXX
      refine (HE1.out _ HP.out).mono ?_; rintro e wk ⟨rfl, hb⟩
      replace HP := Lib.hid (HeldP.on hb HP.out)
      obtain ⟨_, ⟨v0, v1, v2, v3, v4, v5, v6⟩, ⟨s0, s1, s2, s3, s4, s5, s6⟩⟩ := HP.out
      clear hb
      go_wp2_with fail
      refine (HE2.out _ HP.out).mono ?_; rintro e wk ⟨rfl, hb⟩
      clear v0 v1 v2 v3 v4 v5 v6 s0 s1 s2 s3 s4 s5 s6
      replace HP := Lib.hid (HeldP.on hb HP.out)
      obtain ⟨_, ⟨v0, v1, v2, v3, v4, v5, v6⟩, ⟨s0, s1, s2, s3, s4, s5, s6⟩⟩ := HP.out
      clear hb
      go_wp2_with fail
      refine (HE3.out _ HP.out).mono ?_; rintro e wk ⟨rfl, hb⟩
      clear v0 v1 v2 v3 v4 v5 v6 s0 s1 s2 s3 s4 s5 s6
      replace HP := Lib.hid (HeldP.on hb HP.out)
      obtain ⟨_, ⟨v0, v1, v2, v3, v4, v5, v6⟩, ⟨s0, s1, s2, s3, s4, s5, s6⟩⟩ := HP.out
      clear hb
      go_wp2_with fail
      refine (HE4.out _ HP.out).mono ?_; rintro e wk ⟨rfl, hb⟩
      clear v0 v1 v2 v3 v4 v5 v6 s0 s1 s2 s3 s4 s5 s6
      replace HP := Lib.hid (HeldP.on hb HP.out)
      obtain ⟨_, ⟨v0, v1, v2, v3, v4, v5, v6⟩, ⟨s0, s1, s2, s3, s4, s5, s6⟩⟩ := HP.out
      clear hb
      go_wp2_with fail
      refine (HE5.out _ HP.out).mono ?_; rintro e wk ⟨rfl, hb⟩
      clear v0 v1 v2 v3 v4 v5 v6 s0 s1 s2 s3 s4 s5 s6
      replace HP := Lib.hid (HeldP.on hb HP.out)
      obtain ⟨_, ⟨v0, v1, v2, v3, v4, v5, v6⟩, ⟨s0, s1, s2, s3, s4, s5, s6⟩⟩ := HP.out
      clear hb
      go_wp2_with fail
      go_region_held3 (fun w' => Later X w' ∧ (w'.cell? ⟨w2.heap.size, 0, none⟩ = some (.int .i64 z0) ∧ w'.cell? ⟨w2.heap.size, 1, none⟩ = some (.int .i64 z1) ∧ w'.cell? ⟨w2.heap.size, 2, none⟩ = some (.int .i64 z2) ∧ w'.cell? ⟨w2.heap.size, 3, none⟩ = some (.string z3) ∧ w'.cell? ⟨w2.heap.size, 4, none⟩ = some (.slice A1 z4 z7) ∧ w'.cell? ⟨w2.heap.size, 5, none⟩ = some (.slice A2 z5 z8) ∧ w'.cell? ⟨w2.heap.size, 6, none⟩ = some (.slice A3 z6 z9)) ∧ (w'.cell? ⟨w2.heap.size + 1, 0, none⟩ = some (.int .i64 y0) ∧ w'.cell? ⟨w2.heap.size + 1, 1, none⟩ = some (.int .i64 y1) ∧ w'.cell? ⟨w2.heap.size + 1, 2, none⟩ = some (.int .i64 y2) ∧ w'.cell? ⟨w2.heap.size + 1, 3, none⟩ = some (.string y3) ∧ w'.cell? ⟨w2.heap.size + 1, 4, none⟩ = some (.slice B1 y4 y7) ∧ w'.cell? ⟨w2.heap.size + 1, 5, none⟩ = some (.slice B2 y5 y8) ∧ w'.cell? ⟨w2.heap.size + 1, 6, none⟩ = some (.slice B3 y6 y9)))
        (first | with_reducible exact HeldP.drew HP.out | with_reducible exact HeldP.on hbk (by assumption))
        (first | (go_at_call 16; (with_reducible refine (HE6.out _ (by assumption)).mono ?_); rintro r wk ⟨rfl, hbk⟩) | (go_at_call 17; (with_reducible refine (HS1.out _ (by assumption)).mono ?_); rintro r wk ⟨rfl, hbk⟩) | (go_at_call 17; (with_reducible refine (HS2.out _ (by assumption)).mono ?_); rintro r wk ⟨rfl, hbk⟩) | (go_at_call 18; (with_reducible refine (HV1.out _ (by assumption)).mono ?_); rintro r wk ⟨rfl, hbk⟩) | (go_at_call 18; (with_reducible refine (HV2.out _ (by assumption)).mono ?_); rintro r wk ⟨rfl, hbk⟩))
      all_goals
        (rename_i hHL
         have HE := Lib.hid hHL.1
         clear hHL v0 v1 v2 v3 v4 v5 v6 s0 s1 s2 s3 s4 s5 s6 HP
         go_wp2_with fail
         go_ret
         exact ⟨rfl, HL.out.trans HE.out⟩)
    | false =>
      have hqs : Vl.same true d' d = false := by rw [vl_same_symm]; exact hq.symm
      have hqt := hq.symm
      have HE1 : Hid (∀ W', HeldP X W' w2.heap.size (w2.heap.size + 1) (.int .i64 z0) (.int .i64 z1) (.int .i64 z2) (.string z3) (.slice A1 z4 z7) (.slice A2 z5 z8) (.slice A3 z6 z9) (.int .i64 y0) (.int .i64 y1) (.int .i64 y2) (.string y3) (.slice B1 y4 y7) (.slice B2 y5 y8) (.slice B3 y6 y9) → Calls Try.prog 14 #[.agg #[.int .i64 z0, .int .i64 z1, .int .i64 z2, .string z3, .slice A1 z4 z7, .slice A2 z5 z8, .slice A3 z6 z9], .agg #[.int .i64 y0, .int .i64 y1, .int .i64 y2, .string y3, .slice B1 y4 y7, .slice B2 y5 y8, .slice B3 y6 y9]] W' fun r w' => r = .returned (.bool false) ∧ Later W' w') := fun W' h => by have := implEqualValue d d' W' anyB anyB _ _ (HZ.out.later h.1) (HY.out.later h.1); rw [hqt] at this; exact this
      have HE2 : Hid (∀ W', HeldP X W' w2.heap.size (w2.heap.size + 1) (.int .i64 z0) (.int .i64 z1) (.int .i64 z2) (.string z3) (.slice A1 z4 z7) (.slice A2 z5 z8) (.slice A3 z6 z9) (.int .i64 y0) (.int .i64 y1) (.int .i64 y2) (.string y3) (.slice B1 y4 y7) (.slice B2 y5 y8) (.slice B3 y6 y9) → Calls Try.prog 15 #[.agg #[.int .i64 z0, .int .i64 z1, .int .i64 z2, .string z3, .slice A1 z4 z7, .slice A2 z5 z8, .slice A3 z6 z9], .agg #[.int .i64 y0, .int .i64 y1, .int .i64 y2, .string y3, .slice B1 y4 y7, .slice B2 y5 y8, .slice B3 y6 y9]] W' fun r w' => r = .returned (.bool false) ∧ Later W' w') := fun W' h => by have := specEqualValue d d' W' anyB anyB _ _ (HZ.out.later h.1) (HY.out.later h.1); rw [hqt] at this; exact this
      have HE3 : Hid (∀ W', HeldP X W' w2.heap.size (w2.heap.size + 1) (.int .i64 z0) (.int .i64 z1) (.int .i64 z2) (.string z3) (.slice A1 z4 z7) (.slice A2 z5 z8) (.slice A3 z6 z9) (.int .i64 y0) (.int .i64 y1) (.int .i64 y2) (.string y3) (.slice B1 y4 y7) (.slice B2 y5 y8) (.slice B3 y6 y9) → Calls Try.prog 14 #[.agg #[.int .i64 y0, .int .i64 y1, .int .i64 y2, .string y3, .slice B1 y4 y7, .slice B2 y5 y8, .slice B3 y6 y9], .agg #[.int .i64 z0, .int .i64 z1, .int .i64 z2, .string z3, .slice A1 z4 z7, .slice A2 z5 z8, .slice A3 z6 z9]] W' fun r w' => r = .returned (.bool false) ∧ Later W' w') := fun W' h => by have := implEqualValue d' d W' anyB anyB _ _ (HY.out.later h.1) (HZ.out.later h.1); rw [hqs] at this; exact this
      have HE4 : Hid (∀ W', HeldP X W' w2.heap.size (w2.heap.size + 1) (.int .i64 z0) (.int .i64 z1) (.int .i64 z2) (.string z3) (.slice A1 z4 z7) (.slice A2 z5 z8) (.slice A3 z6 z9) (.int .i64 y0) (.int .i64 y1) (.int .i64 y2) (.string y3) (.slice B1 y4 y7) (.slice B2 y5 y8) (.slice B3 y6 y9) → Calls Try.prog 14 #[.agg #[.int .i64 z0, .int .i64 z1, .int .i64 z2, .string z3, .slice A1 z4 z7, .slice A2 z5 z8, .slice A3 z6 z9], .agg #[.int .i64 z0, .int .i64 z1, .int .i64 z2, .string z3, .slice A1 z4 z7, .slice A2 z5 z8, .slice A3 z6 z9]] W' fun r w' => r = .returned (.bool true) ∧ Later W' w') := fun W' h => by have := implEqualValue d d W' anyB anyB _ _ (HZ.out.later h.1) (HZ.out.later h.1); rw [vl_same_self] at this; exact this
      have HE5 : Hid (∀ W', HeldP X W' w2.heap.size (w2.heap.size + 1) (.int .i64 z0) (.int .i64 z1) (.int .i64 z2) (.string z3) (.slice A1 z4 z7) (.slice A2 z5 z8) (.slice A3 z6 z9) (.int .i64 y0) (.int .i64 y1) (.int .i64 y2) (.string y3) (.slice B1 y4 y7) (.slice B2 y5 y8) (.slice B3 y6 y9) → Calls Try.prog 16 #[.agg #[.int .i64 y0, .int .i64 y1, .int .i64 y2, .string y3, .slice B1 y4 y7, .slice B2 y5 y8, .slice B3 y6 y9], .agg #[.int .i64 y0, .int .i64 y1, .int .i64 y2, .string y3, .slice B1 y4 y7, .slice B2 y5 y8, .slice B3 y6 y9]] W' fun r w' => r = .returned (.bool true) ∧ Later W' w') := fun W' h => by have := implEqualShown d' d' W' anyB anyB _ _ (HY.out.later h.1) (HY.out.later h.1); rw [vl_same_self] at this; exact this
      have HS1 : Hid (∀ W', HeldP X W' w2.heap.size (w2.heap.size + 1) (.int .i64 z0) (.int .i64 z1) (.int .i64 z2) (.string z3) (.slice A1 z4 z7) (.slice A2 z5 z8) (.slice A3 z6 z9) (.int .i64 y0) (.int .i64 y1) (.int .i64 y2) (.string y3) (.slice B1 y4 y7) (.slice B2 y5 y8) (.slice B3 y6 y9) → Calls Try.prog 17 #[.agg #[.int .i64 z0, .int .i64 z1, .int .i64 z2, .string z3, .slice A1 z4 z7, .slice A2 z5 z8, .slice A3 z6 z9]] W' fun r w' => r = .returned (.int .i64 (d.size : Int)) ∧ Later W' w') := fun W' h => implSizeOf d HM.out W' anyB _ (HZ.out.later h.1)
      have hsz := size_pos d
      obtain ⟨z, hz⟩ : ∃ z, z = d.size := ⟨_, rfl⟩
      rw [← hz] at HS1 hsz
      have hz1 : (1 : Int) ≤ (z : Int) := by omega
      clear hsz hz HZ HY HM HM' hq hqs hqt
      go_wp2_with fail
      rw [← HXX.out]
      clear HXX
      refine (HE1.out _ HP.out).mono ?_; rintro e wk ⟨rfl, hb⟩
      replace HP := Lib.hid (HeldP.on hb HP.out)
      obtain ⟨_, ⟨v0, v1, v2, v3, v4, v5, v6⟩, ⟨s0, s1, s2, s3, s4, s5, s6⟩⟩ := HP.out
      clear hb
      go_wp2_with fail
      refine (HE2.out _ HP.out).mono ?_; rintro e wk ⟨rfl, hb⟩
      clear v0 v1 v2 v3 v4 v5 v6 s0 s1 s2 s3 s4 s5 s6
      replace HP := Lib.hid (HeldP.on hb HP.out)
      obtain ⟨_, ⟨v0, v1, v2, v3, v4, v5, v6⟩, ⟨s0, s1, s2, s3, s4, s5, s6⟩⟩ := HP.out
      clear hb
      go_wp2_with fail
      refine (HE3.out _ HP.out).mono ?_; rintro e wk ⟨rfl, hb⟩
      clear v0 v1 v2 v3 v4 v5 v6 s0 s1 s2 s3 s4 s5 s6
      replace HP := Lib.hid (HeldP.on hb HP.out)
      obtain ⟨_, ⟨v0, v1, v2, v3, v4, v5, v6⟩, ⟨s0, s1, s2, s3, s4, s5, s6⟩⟩ := HP.out
      clear hb
      go_wp2_with fail
      refine (HE4.out _ HP.out).mono ?_; rintro e wk ⟨rfl, hb⟩
      clear v0 v1 v2 v3 v4 v5 v6 s0 s1 s2 s3 s4 s5 s6
      replace HP := Lib.hid (HeldP.on hb HP.out)
      obtain ⟨_, ⟨v0, v1, v2, v3, v4, v5, v6⟩, ⟨s0, s1, s2, s3, s4, s5, s6⟩⟩ := HP.out
      clear hb
      go_wp2_with fail
      refine (HE5.out _ HP.out).mono ?_; rintro e wk ⟨rfl, hb⟩
      clear v0 v1 v2 v3 v4 v5 v6 s0 s1 s2 s3 s4 s5 s6
      replace HP := Lib.hid (HeldP.on hb HP.out)
      obtain ⟨_, ⟨v0, v1, v2, v3, v4, v5, v6⟩, ⟨s0, s1, s2, s3, s4, s5, s6⟩⟩ := HP.out
      clear hb
      have hP := HP.out
      go_wp2_with fail
      refine wp_region_held_drew (S := (fun w' => Later X w' ∧ (w'.cell? ⟨w2.heap.size, 0, none⟩ = some (.int .i64 z0) ∧ w'.cell? ⟨w2.heap.size, 1, none⟩ = some (.int .i64 z1) ∧ w'.cell? ⟨w2.heap.size, 2, none⟩ = some (.int .i64 z2) ∧ w'.cell? ⟨w2.heap.size, 3, none⟩ = some (.string z3) ∧ w'.cell? ⟨w2.heap.size, 4, none⟩ = some (.slice A1 z4 z7) ∧ w'.cell? ⟨w2.heap.size, 5, none⟩ = some (.slice A2 z5 z8) ∧ w'.cell? ⟨w2.heap.size, 6, none⟩ = some (.slice A3 z6 z9)) ∧ (w'.cell? ⟨w2.heap.size + 1, 0, none⟩ = some (.int .i64 y0) ∧ w'.cell? ⟨w2.heap.size + 1, 1, none⟩ = some (.int .i64 y1) ∧ w'.cell? ⟨w2.heap.size + 1, 2, none⟩ = some (.int .i64 y2) ∧ w'.cell? ⟨w2.heap.size + 1, 3, none⟩ = some (.string y3) ∧ w'.cell? ⟨w2.heap.size + 1, 4, none⟩ = some (.slice B1 y4 y7) ∧ w'.cell? ⟨w2.heap.size + 1, 5, none⟩ = some (.slice B2 y5 y8) ∧ w'.cell? ⟨w2.heap.size + 1, 6, none⟩ = some (.slice B3 y6 y9)))) (by kernel_rfl) (by with_reducible exact HeldP.drew hP) (fun hHeld1 => ?_)
      clear hP
      refine wpAnyH_take (i := 0) (v := ?_) rfl (by kernel_rfl) (by kernel_rfl) (by kernel_rfl) (fun _ _ _ h => h) (Or.inl ⟨by kernel_rfl, ?_⟩) (by assumption) ?_
      rotate_left
      · intro w hSw
        try dsimp only at hSw
        go_simp
        all_goals with_reducible rfl
      try simp only [Act.put, Array.reduceGetElem, List.setIfInBounds_toArray, List.set_cons_zero, List.set_cons_succ]
      refine wpAnyH_take (i := 1) (v := ?_) rfl (by kernel_rfl) (by kernel_rfl) (by kernel_rfl) (fun _ _ _ h => h) (Or.inl ⟨by kernel_rfl, ?_⟩) (by assumption) ?_
      rotate_left
      · intro w hSw
        try dsimp only at hSw
        go_simp
        all_goals with_reducible rfl
      try simp only [Act.put, Array.reduceGetElem, List.setIfInBounds_toArray, List.set_cons_zero, List.set_cons_succ]
      refine wpAnyH_take (i := 2) (v := ?_) rfl (by kernel_rfl) (by kernel_rfl) (by kernel_rfl) (fun _ _ _ h => h) (Or.inl ⟨by kernel_rfl, ?_⟩) (by assumption) ?_
      rotate_left
      · intro w hSw
        try dsimp only at hSw
        go_simp
        all_goals with_reducible rfl
      try simp only [Act.put, Array.reduceGetElem, List.setIfInBounds_toArray, List.set_cons_zero, List.set_cons_succ]
      refine wpAnyH_take (i := 3) (v := ?_) rfl (by kernel_rfl) (by kernel_rfl) (by kernel_rfl) (fun _ _ _ h => h) (Or.inr ⟨by kernel_rfl, ?_⟩) (by assumption) ?_
      rotate_left
      · rfl
      try simp only [Act.put, Array.reduceGetElem, List.setIfInBounds_toArray, List.set_cons_zero, List.set_cons_succ]
      refine wpAnyH_take (i := 4) (v := ?_) rfl (by kernel_rfl) (by kernel_rfl) (by kernel_rfl) (fun _ _ _ h => h) (Or.inr ⟨by kernel_rfl, ?_⟩) (by assumption) ?_
      rotate_left
      · rfl
      try simp only [Act.put, Array.reduceGetElem, List.setIfInBounds_toArray, List.set_cons_zero, List.set_cons_succ]
      refine wpAnyH_take (i := 5) (v := ?_) rfl (by kernel_rfl) (by kernel_rfl) (by kernel_rfl) (fun _ _ _ h => h) (Or.inr ⟨by kernel_rfl, ?_⟩) (by assumption) ?_
      rotate_left
      · rfl
      try simp only [Act.put, Array.reduceGetElem, List.setIfInBounds_toArray, List.set_cons_zero, List.set_cons_succ]
      refine wpAnyH_take (i := 6) (v := ?_) rfl (by kernel_rfl) (by kernel_rfl) (by kernel_rfl) (fun _ _ _ h => h) (Or.inr ⟨by kernel_rfl, ?_⟩) (by assumption) ?_
      rotate_left
      · rfl
      try simp only [Act.put, Array.reduceGetElem, List.setIfInBounds_toArray, List.set_cons_zero, List.set_cons_succ]
      refine wpAnyH_take (i := 7) (v := ?_) rfl (by kernel_rfl) (by kernel_rfl) (by kernel_rfl) (fun _ _ _ h => h) (Or.inr ⟨by kernel_rfl, ?_⟩) (by assumption) ?_
      rotate_left
      · rfl
      try simp only [Act.put, Array.reduceGetElem, List.setIfInBounds_toArray, List.set_cons_zero, List.set_cons_succ]
      refine wpAnyH_take (i := 8) (v := ?_) rfl (by kernel_rfl) (by kernel_rfl) (by kernel_rfl) (fun _ _ _ h => h) (Or.inr ⟨by kernel_rfl, ?_⟩) (by assumption) ?_
      rotate_left
      · rfl
      try simp only [Act.put, Array.reduceGetElem, List.setIfInBounds_toArray, List.set_cons_zero, List.set_cons_succ]
      refine wpAnyH_take (i := 9) (v := ?_) rfl (by kernel_rfl) (by kernel_rfl) (by kernel_rfl) (fun _ _ _ h => h) (Or.inr ⟨by kernel_rfl, ?_⟩) (by assumption) ?_
      rotate_left
      · rfl
      try simp only [Act.put, Array.reduceGetElem, List.setIfInBounds_toArray, List.set_cons_zero, List.set_cons_succ]
      refine wpAnyH_take (i := 10) (v := ?_) rfl (by kernel_rfl) (by kernel_rfl) (by kernel_rfl) (fun _ _ _ h => h) (Or.inr ⟨by kernel_rfl, ?_⟩) (by assumption) ?_
      rotate_left
      · rfl
      try simp only [Act.put, Array.reduceGetElem, List.setIfInBounds_toArray, List.set_cons_zero, List.set_cons_succ]
      refine wpAnyH_take (i := 11) (v := ?_) rfl (by kernel_rfl) (by kernel_rfl) (by kernel_rfl) (fun _ _ _ h => h) (Or.inr ⟨by kernel_rfl, ?_⟩) (by assumption) ?_
      rotate_left
      · rfl
      try simp only [Act.put, Array.reduceGetElem, List.setIfInBounds_toArray, List.set_cons_zero, List.set_cons_succ]
      refine wpAnyH_take (i := 12) (v := ?_) rfl (by kernel_rfl) (by kernel_rfl) (by kernel_rfl) (fun _ _ _ h => h) (Or.inr ⟨by kernel_rfl, ?_⟩) (by assumption) ?_
      rotate_left
      · rfl
      try simp only [Act.put, Array.reduceGetElem, List.setIfInBounds_toArray, List.set_cons_zero, List.set_cons_succ]
      refine wpAnyH_take (i := 13) (v := ?_) rfl (by kernel_rfl) (by kernel_rfl) (by kernel_rfl) (fun _ _ _ h => h) (Or.inr ⟨by kernel_rfl, ?_⟩) (by assumption) ?_
      rotate_left
      · rfl
      try simp only [Act.put, Array.reduceGetElem, List.setIfInBounds_toArray, List.set_cons_zero, List.set_cons_succ]
      refine wpAnyH_take (i := 14) (v := ?_) rfl (by kernel_rfl) (by kernel_rfl) (by kernel_rfl) (fun _ _ _ h => h) (Or.inr ⟨by kernel_rfl, ?_⟩) (by assumption) ?_
      rotate_left
      · rfl
      try simp only [Act.put, Array.reduceGetElem, List.setIfInBounds_toArray, List.set_cons_zero, List.set_cons_succ]
      refine wpAnyH_take (i := 15) (v := ?_) rfl (by kernel_rfl) (by kernel_rfl) (by kernel_rfl) (fun _ _ _ h => h) (Or.inr ⟨by kernel_rfl, ?_⟩) (by assumption) ?_
      rotate_left
      · rfl
      try simp only [Act.put, Array.reduceGetElem, List.setIfInBounds_toArray, List.set_cons_zero, List.set_cons_succ]
      refine wpAnyH_take (i := 16) (v := ?_) rfl (by kernel_rfl) (by kernel_rfl) (by kernel_rfl) (fun _ _ _ h => h) (Or.inr ⟨by kernel_rfl, ?_⟩) (by assumption) ?_
      rotate_left
      · rfl
      try simp only [Act.put, Array.reduceGetElem, List.setIfInBounds_toArray, List.set_cons_zero, List.set_cons_succ]
      refine wpAnyH_take (i := 17) (v := ?_) rfl (by kernel_rfl) (by kernel_rfl) (by kernel_rfl) (fun _ _ _ h => h) (Or.inr ⟨by kernel_rfl, ?_⟩) (by assumption) ?_
      rotate_left
      · rfl
      try simp only [Act.put, Array.reduceGetElem, List.setIfInBounds_toArray, List.set_cons_zero, List.set_cons_succ]
      refine wpAnyH_take (i := 18) (v := ?_) rfl (by kernel_rfl) (by kernel_rfl) (by kernel_rfl) (fun _ _ _ h => h) (Or.inr ⟨by kernel_rfl, ?_⟩) (by assumption) ?_
      rotate_left
      · rfl
      try simp only [Act.put, Array.reduceGetElem, List.setIfInBounds_toArray, List.set_cons_zero, List.set_cons_succ]
      refine wpAnyH_take (i := 19) (v := ?_) rfl (by kernel_rfl) (by kernel_rfl) (by kernel_rfl) (fun _ _ _ h => h) (Or.inr ⟨by kernel_rfl, ?_⟩) (by assumption) ?_
      rotate_left
      · rfl
      try simp only [Act.put, Array.reduceGetElem, List.setIfInBounds_toArray, List.set_cons_zero, List.set_cons_succ]
      refine wpAnyH_take (i := 20) (v := ?_) rfl (by kernel_rfl) (by kernel_rfl) (by kernel_rfl) (fun _ _ _ h => h) (Or.inl ⟨by kernel_rfl, ?_⟩) (by assumption) ?_
      rotate_left
      · intro w hSw
        try dsimp only at hSw
        go_simp
        all_goals with_reducible rfl
      try simp only [Act.put, Array.reduceGetElem, List.setIfInBounds_toArray, List.set_cons_zero, List.set_cons_succ]
      refine wpAnyH_take (i := 21) (v := ?_) rfl (by kernel_rfl) (by kernel_rfl) (by kernel_rfl) (fun _ _ _ h => h) (Or.inl ⟨by kernel_rfl, ?_⟩) (by assumption) ?_
      rotate_left
      · intro w hSw
        try dsimp only at hSw
        go_simp
        all_goals with_reducible rfl
      try simp only [Act.put, Array.reduceGetElem, List.setIfInBounds_toArray, List.set_cons_zero, List.set_cons_succ]
      refine wpAnyH_take (i := 22) (v := ?_) rfl (by kernel_rfl) (by kernel_rfl) (by kernel_rfl) (fun _ _ _ h => h) (Or.inl ⟨by kernel_rfl, ?_⟩) (by assumption) ?_
      rotate_left
      · intro w hSw
        try dsimp only at hSw
        go_simp
        all_goals with_reducible rfl
      try simp only [Act.put, Array.reduceGetElem, List.setIfInBounds_toArray, List.set_cons_zero, List.set_cons_succ]
      refine wpAnyH_ready (rs := [23]) (by kernel_rfl) (by simp) ?_
      refine AllReadyH.cons rfl (fun K hK => ?_) AllReadyH.nil
      go_simp
      go_at_call 17
      refine (HS1.out _ hHeld1).mono ?_
      rintro r wk ⟨rfl, hbk⟩
      refine hK.out _ _ (HeldP.on hbk hHeld1) (fun hHeld2 => ?_)
      clear hK K hHeld1
      try simp only [Act.put, Array.reduceGetElem, List.setIfInBounds_toArray, List.set_cons_zero, List.set_cons_succ]
      refine wpAnyH_take (i := 24) (v := ?_) rfl (by kernel_rfl) (by kernel_rfl) (by kernel_rfl) (fun _ _ _ h => h) (Or.inl ⟨by kernel_rfl, ?_⟩) (by assumption) ?_
      rotate_left
      · intro w hSw
        try dsimp only at hSw
        go_simp
        all_goals with_reducible rfl
      try simp only [Act.put, Array.reduceGetElem, List.setIfInBounds_toArray, List.set_cons_zero, List.set_cons_succ]
      refine wpAnyH_take (i := 25) (v := ?_) rfl (by kernel_rfl) (by kernel_rfl) (by kernel_rfl) (fun _ _ _ h => h) (Or.inl ⟨by kernel_rfl, ?_⟩) (by assumption) ?_
      rotate_left
      · intro w hSw
        try dsimp only at hSw
        go_simp
        all_goals with_reducible rfl
      try simp only [Act.put, Array.reduceGetElem, List.setIfInBounds_toArray, List.set_cons_zero, List.set_cons_succ]
      refine wpAnyH_take (i := 26) (v := ?_) rfl (by kernel_rfl) (by kernel_rfl) (by kernel_rfl) (fun _ _ _ h => h) (Or.inl ⟨by kernel_rfl, ?_⟩) (by assumption) ?_
      rotate_left
      · intro w hSw
        try dsimp only at hSw
        go_simp
        all_goals with_reducible rfl
      try simp only [Act.put, Array.reduceGetElem, List.setIfInBounds_toArray, List.set_cons_zero, List.set_cons_succ]
      refine wpAnyH_done (by kernel_rfl) ?_ _
      have HE := Lib.hid hHeld2.1
      clear hHeld2 v0 v1 v2 v3 v4 v5 v6 s0 s1 s2 s3 s4 s5 s6 HP
      go_wp2_with fail
      go_ret
      exact ⟨rfl, HL.out.trans HE.out⟩

end Go.Proofs.Ytghemlokpfipoaa
