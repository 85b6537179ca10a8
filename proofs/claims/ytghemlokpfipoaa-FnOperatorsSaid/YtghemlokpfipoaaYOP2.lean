/-
  l5Pair: the walk.
-/
import Derived.Test.YtghemlokpfipoaaYPV
import Derived.Deep.RegionHeld3
namespace Go.Proofs.Ytghemlokpfipoaa
open Go.ChangeShapes Go.WideShapes Go.ChangeAt Go.RowKit
set_option linter.unusedVariables false
set_option linter.unusedSimpArgs false
set_option maxRecDepth 100000


set_option maxHeartbeats 20000000 in
theorem drawPair5 (g : Nat) (W : World) (hc : CurAt W g) : Calls Try.prog 86 #[.pointer (some ⟨g, 0, none⟩)] W fun r w' => PairA 121000 g W w' r := by
  have hlt := hc.lt
  have HC0 := Lib.hid (hc.later (((Later.rfl' W).alloc (.cells #[.int .i64 0, .int .i64 0, .int .i64 0, .string ⟨#[]⟩, .slice none 0 0, .slice none 0 0, .slice none 0 0] 28)).alloc (.cells #[.int .i64 0, .int .i64 0, .int .i64 0, .string ⟨#[]⟩, .slice none 0 0, .slice none 0 0, .slice none 0 0] 28)))
  have HR0 := Lib.hid ((box_alloc W #[.int .i64 0, .int .i64 0, .int .i64 0, .string ⟨#[]⟩, .slice none 0 0, .slice none 0 0, .slice none 0 0] 28).later ((Later.rfl' _).alloc (.cells #[.int .i64 0, .int .i64 0, .int .i64 0, .string ⟨#[]⟩, .slice none 0 0, .slice none 0 0, .slice none 0 0] 28)))
  have hq := box_alloc (W.alloc (.cells #[.int .i64 0, .int .i64 0, .int .i64 0, .string ⟨#[]⟩, .slice none 0 0, .slice none 0 0, .slice none 0 0] 28)) #[.int .i64 0, .int .i64 0, .int .i64 0, .string ⟨#[]⟩, .slice none 0 0, .slice none 0 0, .slice none 0 0] 28
  rw [World.size_alloc] at hq
  have HQ0 := Lib.hid hq
  clear hc hq
  go_enter Try.func86, Try.ntmps86
  go_wp2_with fail
  refine (drawBent g _ HC0.out).mono ?_; rintro e w1 ⟨⟨d, ⟨z0, z1, z2, z3, A1, z4, z7, A2, z5, z8, A3, z6, z9, rfl, ho⟩, hcost⟩, hcu, hch⟩
  have hzz := hch.size
  simp only [World.size_alloc] at hzz ho
  have HOD := Lib.hid (((ho.more (S' := fun b => W.heap.size + 2 ≤ b ∧ b < w1.heap.size) fun b hb => ⟨by omega, hb.2⟩)).later ((Later.rfl' w1).alloc (.cells #[.int .i64 z0, .int .i64 z1, .int .i64 z2, .string z3, .slice A1 z4 z7, .slice A2 z5 z8, .slice A3 z6 z9] 28)))
  have HBD := Lib.hid (box_alloc w1 #[.int .i64 z0, .int .i64 z1, .int .i64 z2, .string z3, .slice A1 z4 z7, .slice A2 z5 z8, .slice A3 z6 z9] 28)
  have HMD := Lib.hid hcost
  have HC1 := Lib.hid (hcu.later ((Later.rfl' w1).alloc (.cells #[.int .i64 z0, .int .i64 z1, .int .i64 z2, .string z3, .slice A1 z4 z7, .slice A2 z5 z8, .slice A3 z6 z9] 28))); have HH1 := Lib.hid (hch.trans (((Later.rfl' w1).alloc (.cells #[.int .i64 z0, .int .i64 z1, .int .i64 z2, .string z3, .slice A1 z4 z7, .slice A2 z5 z8, .slice A3 z6 z9] 28)).chg _))
  clear ho hcost hcu hch HC0
  go_wp2_with fail
  refine (drawBelow 4 g (by omega) (by omega) _ HC1.out).mono ?_; rintro e w2 ⟨⟨m, hm, rfl⟩, hcu, hch⟩
  have HC2 := Lib.hid hcu; have HH2 := Lib.hid (HH1.out.trans hch)
  replace HOD := Lib.hid (HOD.out.chg hch fun b h1 h2 => by unfold onlyB at h2; omega)
  replace HBD := Lib.hid (HBD.out.chg hch fun h => by unfold onlyB at h; omega)
  clear hcu hch HC1 HH1
  have hm5 : m = 0 ∨ m = 1 ∨ m = 2 ∨ m = 3 := by omega
  clear hm
  rcases hm5 with rfl | rfl | rfl | rfl
  · go_wp2_with fail
    refine (drawNum g _ HC2.out).mono ?_; rintro e wa ⟨⟨x1, hx, rfl⟩, hcu, hch⟩
    have HX1 := Lib.hid hx; have HCa1 := Lib.hid hcu; have HHa1 := Lib.hid (HH2.out.trans hch)
    clear hx hcu hch HC2 HH2
    go_wp2_with fail
    refine (specNumberValue x1 _).mono ?_; rintro e wa' ⟨rfl, hb⟩
    unfold leafA
    have HCb1 := Lib.hid (HCa1.out.later hb); have HHb1 := Lib.hid (HHa1.out.trans (hb.chg _))
    clear hb HCa1 HHa1
    go_wp2_with fail
    refine (drawNum g _ HCb1.out).mono ?_; rintro e wb ⟨⟨x2, hx, rfl⟩, hcu, hch⟩
    have HX2 := Lib.hid hx; have HCa2 := Lib.hid hcu; have HHa2 := Lib.hid (HHb1.out.trans hch)
    clear hx hcu hch HCb1 HHb1
    go_wp2_with fail
    refine (specNumberValue x2 _).mono ?_; rintro e wb' ⟨rfl, hb⟩
    unfold leafA
    have HCb2 := Lib.hid (HCa2.out.later hb); have HHb2 := Lib.hid (HHa2.out.trans (hb.chg _))
    clear hb HCa2 HHa2
    have HCE := HCb2; have HHE := HHb2
    have hR := HR0.out.chg HHE.out fun h => by unfold onlyB at h; omega
    have hQ := HQ0.out.chg HHE.out fun h => by unfold onlyB at h; omega
    have r0 := hR.cell (j := 0) rfl
    have f0 := hR.free 0
    have r1 := hR.cell (j := 1) rfl
    have f1 := hR.free 1
    have r2 := hR.cell (j := 2) rfl
    have f2 := hR.free 2
    have r3 := hR.cell (j := 3) rfl
    have f3 := hR.free 3
    have r4 := hR.cell (j := 4) rfl
    have f4 := hR.free 4
    have r5 := hR.cell (j := 5) rfl
    have f5 := hR.free 5
    have r6 := hR.cell (j := 6) rfl
    have f6 := hR.free 6
    have rz := hR.lt
    have q0 := hQ.cell (j := 0) rfl
    have e0 := hQ.free 0
    have q1 := hQ.cell (j := 1) rfl
    have e1 := hQ.free 1
    have q2 := hQ.cell (j := 2) rfl
    have e2 := hQ.free 2
    have q3 := hQ.cell (j := 3) rfl
    have e3 := hQ.free 3
    have q4 := hQ.cell (j := 4) rfl
    have e4 := hQ.free 4
    have q5 := hQ.cell (j := 5) rfl
    have e5 := hQ.free 5
    have q6 := hQ.cell (j := 6) rfl
    have e6 := hQ.free 6
    have qz := hQ.lt
    clear hR hQ HR0 HQ0
    go_wp2_with fail
    exact bodyPost_ret (v := .tuple #[.agg #[.int .i64 1, .int .i64 x1, .int .i64 0, .string ⟨#[]⟩, .slice none 0 0, .slice none 0 0, .slice none 0 0], .agg #[.int .i64 1, .int .i64 x2, .int .i64 0, .string ⟨#[]⟩, .slice none 0 0, .slice none 0 0, .slice none 0 0]]) (by simp [results, Try.results86, go_sem, r0, r1, r2, r3, r4, r5, r6, q0, q1, q2, q3, q4, q5, q6]) rfl (pair_end2 (w4 := wb') rfl (leaf_own _ _ (by unfold Between64; omega) (by have := HX1.out; unfold Between64; omega) (by unfold Between64; omega) (by decide)) (leaf_own _ _ (by unfold Between64; omega) (by have := HX2.out; unfold Between64; omega) (by unfold Between64; omega) (by decide)) HCE.out (((((Later.rfl' W).alloc _).alloc _).chg _).trans (HHE.out.more fun k hk => .inl hk)) hlt (by rw [cost_leaf]; decide) (by rw [cost_leaf]; decide) (put_two wb' _ [.int .i64 1, .int .i64 x1, .int .i64 0, .string ⟨#[]⟩, .slice none 0 0, .slice none 0 0, .slice none 0 0] [.int .i64 1, .int .i64 x2, .int .i64 0, .string ⟨#[]⟩, .slice none 0 0, .slice none 0 0, .slice none 0 0]))
  · go_wp2_with fail
    refine (drawText g _ HC2.out).mono ?_; rintro e wa ⟨⟨x1, hx, rfl⟩, hcu, hch⟩
    have HX1 := Lib.hid hx; have HCa1 := Lib.hid hcu; have HHa1 := Lib.hid (HH2.out.trans hch)
    clear hx hcu hch HC2 HH2
    go_wp2_with fail
    refine (specTextValue x1 _).mono ?_; rintro e wa' ⟨rfl, hb⟩
    unfold leafA
    have HCb1 := Lib.hid (HCa1.out.later hb); have HHb1 := Lib.hid (HHa1.out.trans (hb.chg _))
    clear hb HCa1 HHa1
    go_wp2_with fail
    refine (drawText g _ HCb1.out).mono ?_; rintro e wb ⟨⟨x2, hx, rfl⟩, hcu, hch⟩
    have HX2 := Lib.hid hx; have HCa2 := Lib.hid hcu; have HHa2 := Lib.hid (HHb1.out.trans hch)
    clear hx hcu hch HCb1 HHb1
    go_wp2_with fail
    refine (specTextValue x2 _).mono ?_; rintro e wb' ⟨rfl, hb⟩
    unfold leafA
    have HCb2 := Lib.hid (HCa2.out.later hb); have HHb2 := Lib.hid (HHa2.out.trans (hb.chg _))
    clear hb HCa2 HHa2
    have HCE := HCb2; have HHE := HHb2
    have hR := HR0.out.chg HHE.out fun h => by unfold onlyB at h; omega
    have hQ := HQ0.out.chg HHE.out fun h => by unfold onlyB at h; omega
    have r0 := hR.cell (j := 0) rfl
    have f0 := hR.free 0
    have r1 := hR.cell (j := 1) rfl
    have f1 := hR.free 1
    have r2 := hR.cell (j := 2) rfl
    have f2 := hR.free 2
    have r3 := hR.cell (j := 3) rfl
    have f3 := hR.free 3
    have r4 := hR.cell (j := 4) rfl
    have f4 := hR.free 4
    have r5 := hR.cell (j := 5) rfl
    have f5 := hR.free 5
    have r6 := hR.cell (j := 6) rfl
    have f6 := hR.free 6
    have rz := hR.lt
    have q0 := hQ.cell (j := 0) rfl
    have e0 := hQ.free 0
    have q1 := hQ.cell (j := 1) rfl
    have e1 := hQ.free 1
    have q2 := hQ.cell (j := 2) rfl
    have e2 := hQ.free 2
    have q3 := hQ.cell (j := 3) rfl
    have e3 := hQ.free 3
    have q4 := hQ.cell (j := 4) rfl
    have e4 := hQ.free 4
    have q5 := hQ.cell (j := 5) rfl
    have e5 := hQ.free 5
    have q6 := hQ.cell (j := 6) rfl
    have e6 := hQ.free 6
    have qz := hQ.lt
    clear hR hQ HR0 HQ0
    go_wp2_with fail
    exact bodyPost_ret (v := .tuple #[.agg #[.int .i64 2, .int .i64 0, .int .i64 0, .string x1, .slice none 0 0, .slice none 0 0, .slice none 0 0], .agg #[.int .i64 2, .int .i64 0, .int .i64 0, .string x2, .slice none 0 0, .slice none 0 0, .slice none 0 0]]) (by simp [results, Try.results86, go_sem, r0, r1, r2, r3, r4, r5, r6, q0, q1, q2, q3, q4, q5, q6]) rfl (pair_end2 (w4 := wb') rfl (leaf_own _ _ (by unfold Between64; omega) (by unfold Between64; omega) (by unfold Between64; omega) (by have := HX1.out; omega)) (leaf_own _ _ (by unfold Between64; omega) (by unfold Between64; omega) (by unfold Between64; omega) (by have := HX2.out; omega)) HCE.out (((((Later.rfl' W).alloc _).alloc _).chg _).trans (HHE.out.more fun k hk => .inl hk)) hlt (by rw [cost_leaf]; have := HX1.out; omega) (by rw [cost_leaf]; have := HX2.out; omega) (put_two wb' _ [.int .i64 2, .int .i64 0, .int .i64 0, .string x1, .slice none 0 0, .slice none 0 0, .slice none 0 0] [.int .i64 2, .int .i64 0, .int .i64 0, .string x2, .slice none 0 0, .slice none 0 0, .slice none 0 0]))
  · go_wp2_with fail
    refine (drawList3 g _ HC2.out).mono ?_; rintro e wa h3
    obtain ⟨⟨d1, ⟨z0, z1, z2, z3, A1, z4, z7, A2, z5, z8, A3, z6, z9, rfl, ho⟩, hcost⟩, hcu, hch⟩ := h3.v
    have hzz := HH2.out.size
    simp only [World.size_alloc] at hzz
    have HO1 := Lib.hid (ho.more (S' := fun b => W.heap.size + 2 ≤ b ∧ b < wa.heap.size) fun b hb => ⟨by omega, hb.2⟩)
    have HM1 := Lib.hid hcost; have HCb1 := Lib.hid hcu; have HHb1 := Lib.hid (HH2.out.trans hch)
    have hch1 := hch
    clear h3 ho hcost hcu hch hzz HC2 HH2
    go_wp2_with fail
    refine (drawList3 g _ HCb1.out).mono ?_; rintro e wb h3
    obtain ⟨⟨d2, ⟨y0, y1, y2, y3, B1, y4, y7, B2, y5, y8, B3, y6, y9, rfl, ho⟩, hcost⟩, hcu, hch⟩ := h3.v
    have hzz := HHb1.out.size
    simp only [World.size_alloc] at hzz
    have HO2 := Lib.hid (ho.more (S' := fun b => W.heap.size + 2 ≤ b ∧ b < wb.heap.size) fun b hb => ⟨by omega, hb.2⟩)
    have HM2 := Lib.hid hcost; have HCb2 := Lib.hid hcu; have HHb2 := Lib.hid (HHb1.out.trans hch)
    have hch2 := hch
    clear h3 ho hcost hcu hch hzz HCb1 HHb1
    have HCE := HCb2; have HHE := HHb2
    have hs2 := hch2.size
    have HO1' := Lib.hid ((HO1.out.chg hch2 fun b h1 h2 => by unfold onlyB at h2; omega).more (S' := fun b => W.heap.size + 2 ≤ b ∧ b < wb.heap.size) fun b hb => ⟨hb.1, by omega⟩)
    clear hch1 hch2
    have hR := HR0.out.chg HHE.out fun h => by unfold onlyB at h; omega
    have hQ := HQ0.out.chg HHE.out fun h => by unfold onlyB at h; omega
    have r0 := hR.cell (j := 0) rfl
    have f0 := hR.free 0
    have r1 := hR.cell (j := 1) rfl
    have f1 := hR.free 1
    have r2 := hR.cell (j := 2) rfl
    have f2 := hR.free 2
    have r3 := hR.cell (j := 3) rfl
    have f3 := hR.free 3
    have r4 := hR.cell (j := 4) rfl
    have f4 := hR.free 4
    have r5 := hR.cell (j := 5) rfl
    have f5 := hR.free 5
    have r6 := hR.cell (j := 6) rfl
    have f6 := hR.free 6
    have rz := hR.lt
    have q0 := hQ.cell (j := 0) rfl
    have e0 := hQ.free 0
    have q1 := hQ.cell (j := 1) rfl
    have e1 := hQ.free 1
    have q2 := hQ.cell (j := 2) rfl
    have e2 := hQ.free 2
    have q3 := hQ.cell (j := 3) rfl
    have e3 := hQ.free 3
    have q4 := hQ.cell (j := 4) rfl
    have e4 := hQ.free 4
    have q5 := hQ.cell (j := 5) rfl
    have e5 := hQ.free 5
    have q6 := hQ.cell (j := 6) rfl
    have e6 := hQ.free 6
    have qz := hQ.lt
    clear hR hQ HR0 HQ0
    go_wp2_with fail
    exact bodyPost_ret (v := .tuple #[.agg #[.int .i64 z0, .int .i64 z1, .int .i64 z2, .string z3, .slice A1 z4 z7, .slice A2 z5 z8, .slice A3 z6 z9], .agg #[.int .i64 y0, .int .i64 y1, .int .i64 y2, .string y3, .slice B1 y4 y7, .slice B2 y5 y8, .slice B3 y6 y9]]) (by simp [results, Try.results86, go_sem, r0, r1, r2, r3, r4, r5, r6, q0, q1, q2, q3, q4, q5, q6]) rfl (pair_end2 (w4 := wb) rfl (HO1'.out.ats.more fun b h => h.1) (HO2.out.ats.more fun b h => h.1) HCE.out (((((Later.rfl' W).alloc _).alloc _).chg _).trans (HHE.out.more fun k hk => .inl hk)) hlt (Nat.le_trans HM1.out (by decide)) (Nat.le_trans HM2.out (by decide)) (put_two wb _ [.int .i64 z0, .int .i64 z1, .int .i64 z2, .string z3, .slice A1 z4 z7, .slice A2 z5 z8, .slice A3 z6 z9] [.int .i64 y0, .int .i64 y1, .int .i64 y2, .string y3, .slice B1 y4 y7, .slice B2 y5 y8, .slice B3 y6 y9]))
  · go_wp2_with fail
    refine (drawOnce 2 g (by omega) (by omega) _ HC2.out).mono ?_; rintro e w3 ⟨⟨q, rfl⟩, hcu, hch⟩
    have HC3 := Lib.hid hcu
    have HH3 := Lib.hid (((((Later.rfl' W).alloc (.cells #[.int .i64 0, .int .i64 0, .int .i64 0, .string ⟨#[]⟩, .slice none 0 0, .slice none 0 0, .slice none 0 0] 28)).alloc (.cells #[.int .i64 0, .int .i64 0, .int .i64 0, .string ⟨#[]⟩, .slice none 0 0, .slice none 0 0, .slice none 0 0] 28)).chg (freshB g W.heap.size)).trans ((HH2.out.trans hch).more fun k hk => .inl hk))
    have HR3 := Lib.hid (HR0.out.chg (HH2.out.trans hch) fun h => by unfold onlyB at h; omega)
    have HQ3 := Lib.hid (HQ0.out.chg (HH2.out.trans hch) fun h => by unfold onlyB at h; omega)
    replace HBD := Lib.hid (HBD.out.chg hch fun h => by unfold onlyB at h; omega)
    have HO3 := Lib.hid ((HOD.out.chg hch fun b h1 h2 => by unfold onlyB at h2; omega).ats.more (S' := fun b => W.heap.size + 2 ≤ b) fun b h => h.1)
    have HV := Lib.hid (Held7.of HBD.out)
    have hz1 := HBD.out.lt
    clear hcu hch HC2 HH2 HR0 HQ0 HOD
    cases q with
    | true =>
      have HK := Lib.hid (callB_copy (R := W.heap.size) (H := w1.heap.size) HO3.out (fun b h => by omega) HMD.out HC3.out hlt (by omega) HBD.out.lt)
      have hR3 := HR3.out
      obtain ⟨u0, u1, u2, u3, u4, u5, u6, v0, v1, v2, v3, v4, v5, v6⟩ := box_seven hR3
      have hV3 := HV.out
      clear hR3
      go_wp2_with fail
      go_region_held3 (fun w' => w'.cell? ⟨w1.heap.size, 0, none⟩ = some (.int .i64 z0) ∧ w'.cell? ⟨w1.heap.size, 1, none⟩ = some (.int .i64 z1) ∧ w'.cell? ⟨w1.heap.size, 2, none⟩ = some (.int .i64 z2) ∧ w'.cell? ⟨w1.heap.size, 3, none⟩ = some (.string z3) ∧ w'.cell? ⟨w1.heap.size, 4, none⟩ = some (.slice A1 z4 z7) ∧ w'.cell? ⟨w1.heap.size, 5, none⟩ = some (.slice A2 z5 z8) ∧ w'.cell? ⟨w1.heap.size, 6, none⟩ = some (.slice A3 z6 z9))
        (first | with_reducible exact Held7.drew HV.out | with_reducible exact Held7.set (by assumption) (by omega) _ _ _ _ _ _ _ | with_reducible exact Held7.block (by assumption) hblk)
        (first | (go_at_call 100; refine (HK.out _ (by first | exact (Later.rfl' _).drew.chg _ | exact ((Later.rfl' w3).drew.chg _).trans (chain_chg _ _ _ _ _ _ _ _ _))).mono ?_; rintro r w4 ⟨d2, y0, y1, y2, y3, B1, y4, y7, B2, y5, y8, B3, y6, y9, rfl, ho2, hM2, hcu4, hch4, hqR, hqQ, hblk⟩; have hQ4 := box_blk HQ3.out hqQ; obtain ⟨q0, q1, q2, q3, q4, q5, q6, e0, e1, e2, e3, e4, e5, e6⟩ := box_seven hQ4; first | (have hR4 := box_blk (HR3.out.later (Later.rfl' w3).drew) hqR; obtain ⟨r0, r1, r2, r3, r4, r5, r6, f0, f1, f2, f3, f4, f5, f6⟩ := box_seven hR4) | (have hR4 := box_blk (box_chain (HR3.out.later (Later.rfl' w3).drew) (.int .i64 z0) (.int .i64 z1) (.int .i64 z2) (.string z3) (.slice A1 z4 z7) (.slice A2 z5 z8) (.slice A3 z6 z9)) hqR; obtain ⟨r0, r1, r2, r3, r4, r5, r6, f0, f1, f2, f3, f4, f5, f6⟩ := box_seven hR4)))
      all_goals
        (rename_i hHL; clear hHL
         have HO2 := Lib.hid ho2; have HM2 := Lib.hid hM2; have HC4 := Lib.hid hcu4; have HH4 := Lib.hid (HH3.out.trans (hch4.more fun k hk => by unfold freshB; omega))
         have HO4 := Lib.hid ((HO3.out.chg hch4 fun b h1 h2 => by omega).more fun b h => h)
         have hqz := hQ4.lt
         have hrz := hR4.lt
         clear ho2 hM2 hcu4 hch4 hQ4 hR4 hqR hqQ hblk u0 u1 u2 u3 u4 u5 u6 v0 v1 v2 v3 v4 v5 v6
         go_wp2_with fail
         exact bodyPost_ret (v := .tuple #[.agg #[.int .i64 z0, .int .i64 z1, .int .i64 z2, .string z3, .slice A1 z4 z7, .slice A2 z5 z8, .slice A3 z6 z9], .agg #[.int .i64 y0, .int .i64 y1, .int .i64 y2, .string y3, .slice B1 y4 y7, .slice B2 y5 y8, .slice B3 y6 y9]]) (by simp [results, Try.results86, go_sem, r0, r1, r2, r3, r4, r5, r6, q0, q1, q2, q3, q4, q5, q6]) rfl (pair_end2 (w4 := w4) rfl HO4.out HO2.out HC4.out HH4.out hlt HMD.out HM2.out (by first | with_reducible exact (chain_chg _ _ _ _ _ _ _ _ _).more (fun k hk => .inr hk) | with_reducible exact ((chain_chg _ _ _ _ _ _ _ _ _).more (fun k hk => .inl hk)).trans ((chain_chg _ _ _ _ _ _ _ _ _).more (fun k hk => .inr hk)) | with_reducible exact ((chain_chg _ _ _ _ _ _ _ _ _).more (fun k hk => .inr hk)).trans ((chain_chg _ _ _ _ _ _ _ _ _).more (fun k hk => .inl hk)))))
    | false =>
      have HK := Lib.hid (callB_bent (R := W.heap.size) (H := w1.heap.size)  HC3.out hlt (by omega) HBD.out.lt)
      have hR3 := HR3.out
      obtain ⟨u0, u1, u2, u3, u4, u5, u6, v0, v1, v2, v3, v4, v5, v6⟩ := box_seven hR3
      have hV3 := HV.out
      clear hR3
      go_wp2_with fail
      go_region_held3 (fun w' => w'.cell? ⟨w1.heap.size, 0, none⟩ = some (.int .i64 z0) ∧ w'.cell? ⟨w1.heap.size, 1, none⟩ = some (.int .i64 z1) ∧ w'.cell? ⟨w1.heap.size, 2, none⟩ = some (.int .i64 z2) ∧ w'.cell? ⟨w1.heap.size, 3, none⟩ = some (.string z3) ∧ w'.cell? ⟨w1.heap.size, 4, none⟩ = some (.slice A1 z4 z7) ∧ w'.cell? ⟨w1.heap.size, 5, none⟩ = some (.slice A2 z5 z8) ∧ w'.cell? ⟨w1.heap.size, 6, none⟩ = some (.slice A3 z6 z9))
        (first | with_reducible exact Held7.drew HV.out | with_reducible exact Held7.set (by assumption) (by omega) _ _ _ _ _ _ _ | with_reducible exact Held7.block (by assumption) hblk)
        (first | (go_at_call 124; refine (HK.out _ (by first | exact (Later.rfl' _).drew.chg _ | exact ((Later.rfl' w3).drew.chg _).trans (chain_chg _ _ _ _ _ _ _ _ _))).mono ?_; rintro r w4 ⟨d2, y0, y1, y2, y3, B1, y4, y7, B2, y5, y8, B3, y6, y9, rfl, ho2, hM2, hcu4, hch4, hqR, hqQ, hblk⟩; have hQ4 := box_blk HQ3.out hqQ; obtain ⟨q0, q1, q2, q3, q4, q5, q6, e0, e1, e2, e3, e4, e5, e6⟩ := box_seven hQ4; first | (have hR4 := box_blk (HR3.out.later (Later.rfl' w3).drew) hqR; obtain ⟨r0, r1, r2, r3, r4, r5, r6, f0, f1, f2, f3, f4, f5, f6⟩ := box_seven hR4) | (have hR4 := box_blk (box_chain (HR3.out.later (Later.rfl' w3).drew) (.int .i64 z0) (.int .i64 z1) (.int .i64 z2) (.string z3) (.slice A1 z4 z7) (.slice A2 z5 z8) (.slice A3 z6 z9)) hqR; obtain ⟨r0, r1, r2, r3, r4, r5, r6, f0, f1, f2, f3, f4, f5, f6⟩ := box_seven hR4)))
      all_goals
        (rename_i hHL; clear hHL
         have HO2 := Lib.hid ho2; have HM2 := Lib.hid hM2; have HC4 := Lib.hid hcu4; have HH4 := Lib.hid (HH3.out.trans (hch4.more fun k hk => by unfold freshB; omega))
         have HO4 := Lib.hid ((HO3.out.chg hch4 fun b h1 h2 => by omega).more fun b h => h)
         have hqz := hQ4.lt
         have hrz := hR4.lt
         clear ho2 hM2 hcu4 hch4 hQ4 hR4 hqR hqQ hblk u0 u1 u2 u3 u4 u5 u6 v0 v1 v2 v3 v4 v5 v6
         go_wp2_with fail
         exact bodyPost_ret (v := .tuple #[.agg #[.int .i64 z0, .int .i64 z1, .int .i64 z2, .string z3, .slice A1 z4 z7, .slice A2 z5 z8, .slice A3 z6 z9], .agg #[.int .i64 y0, .int .i64 y1, .int .i64 y2, .string y3, .slice B1 y4 y7, .slice B2 y5 y8, .slice B3 y6 y9]]) (by simp [results, Try.results86, go_sem, r0, r1, r2, r3, r4, r5, r6, q0, q1, q2, q3, q4, q5, q6]) rfl (pair_end2 (w4 := w4) rfl HO4.out HO2.out HC4.out HH4.out hlt HMD.out HM2.out (by first | with_reducible exact (chain_chg _ _ _ _ _ _ _ _ _).more (fun k hk => .inr hk) | with_reducible exact ((chain_chg _ _ _ _ _ _ _ _ _).more (fun k hk => .inl hk)).trans ((chain_chg _ _ _ _ _ _ _ _ _).more (fun k hk => .inr hk)) | with_reducible exact ((chain_chg _ _ _ _ _ _ _ _ _).more (fun k hk => .inr hk)).trans ((chain_chg _ _ _ _ _ _ _ _ _).more (fun k hk => .inl hk)))))

end Go.Proofs.Ytghemlokpfipoaa
