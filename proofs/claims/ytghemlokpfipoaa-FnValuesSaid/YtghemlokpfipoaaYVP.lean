/-
  l3Pair, DrawEqualValue: the walks.
-/
import Derived.Test.YtghemlokpfipoaaYVP0
import Derived.Deep.RegionHeld3
namespace Go.Proofs.Ytghemlokpfipoaa
open Go.ChangeShapes Go.WideShapes Go.ChangeAt Go.RowKit
set_option linter.unusedVariables false
set_option linter.unusedSimpArgs false
set_option maxRecDepth 100000


set_option maxHeartbeats 20000000 in
theorem drawPair3 (g : Nat) (W : World) (hc : CurAt W g) : Calls Try.prog 62 #[.pointer (some ⟨g, 0, none⟩)] W fun r w' => PairA 122000 g W w' r := by
  have hlt := hc.lt
  have HC0 := Lib.hid (hc.later (((Later.rfl' W).alloc (.cells #[.int .i64 0, .int .i64 0, .int .i64 0, .string ⟨#[]⟩, .slice none 0 0, .slice none 0 0, .slice none 0 0] 28)).alloc (.cells #[.int .i64 0, .int .i64 0, .int .i64 0, .string ⟨#[]⟩, .slice none 0 0, .slice none 0 0, .slice none 0 0] 28)))
  have HR0 := Lib.hid ((box_alloc W #[.int .i64 0, .int .i64 0, .int .i64 0, .string ⟨#[]⟩, .slice none 0 0, .slice none 0 0, .slice none 0 0] 28).later ((Later.rfl' _).alloc (.cells #[.int .i64 0, .int .i64 0, .int .i64 0, .string ⟨#[]⟩, .slice none 0 0, .slice none 0 0, .slice none 0 0] 28)))
  have hq := box_alloc (W.alloc (.cells #[.int .i64 0, .int .i64 0, .int .i64 0, .string ⟨#[]⟩, .slice none 0 0, .slice none 0 0, .slice none 0 0] 28)) #[.int .i64 0, .int .i64 0, .int .i64 0, .string ⟨#[]⟩, .slice none 0 0, .slice none 0 0, .slice none 0 0] 28
  rw [World.size_alloc] at hq
  have HQ0 := Lib.hid hq
  clear hc hq
  go_enter Try.func62, Try.ntmps62
  go_wp2_with fail
  refine (drawBent g _ HC0.out).mono ?_; rintro e w1 ⟨⟨d, ⟨z0, z1, z2, z3, A1, z4, z7, A2, z5, z8, A3, z6, z9, rfl, ho⟩, hcost⟩, hcu, hch⟩
  have hzz := hch.size
  simp only [World.size_alloc] at hzz ho
  have HOD := Lib.hid (((ho.more (S' := fun b => W.heap.size + 2 ≤ b ∧ b < w1.heap.size) fun b hb => ⟨by omega, hb.2⟩)).later ((Later.rfl' w1).alloc (.cells #[.int .i64 z0, .int .i64 z1, .int .i64 z2, .string z3, .slice A1 z4 z7, .slice A2 z5 z8, .slice A3 z6 z9] 28)))
  have HBD := Lib.hid (box_alloc w1 #[.int .i64 z0, .int .i64 z1, .int .i64 z2, .string z3, .slice A1 z4 z7, .slice A2 z5 z8, .slice A3 z6 z9] 28)
  have HMD := Lib.hid hcost
  have HC1 := Lib.hid (hcu.later ((Later.rfl' w1).alloc (.cells #[.int .i64 z0, .int .i64 z1, .int .i64 z2, .string z3, .slice A1 z4 z7, .slice A2 z5 z8, .slice A3 z6 z9] 28))); have HH1 := Lib.hid (hch.trans (((Later.rfl' w1).alloc (.cells #[.int .i64 z0, .int .i64 z1, .int .i64 z2, .string z3, .slice A1 z4 z7, .slice A2 z5 z8, .slice A3 z6 z9] 28)).chg _))
  clear ho hcost hcu hch HC0
  go_wp2_with fail
  refine (drawOnce 3 g (by omega) (by omega) _ HC1.out).mono ?_; rintro e w3 ⟨⟨q, rfl⟩, hcu, hch⟩
  have HC3 := Lib.hid hcu
  have HH3 := Lib.hid (((((Later.rfl' W).alloc (.cells #[.int .i64 0, .int .i64 0, .int .i64 0, .string ⟨#[]⟩, .slice none 0 0, .slice none 0 0, .slice none 0 0] 28)).alloc (.cells #[.int .i64 0, .int .i64 0, .int .i64 0, .string ⟨#[]⟩, .slice none 0 0, .slice none 0 0, .slice none 0 0] 28)).chg (freshB g W.heap.size)).trans ((HH1.out.trans hch).more fun k hk => .inl hk))
  have HR3 := Lib.hid (HR0.out.chg (HH1.out.trans hch) fun h => by unfold onlyB at h; omega)
  have HQ3 := Lib.hid (HQ0.out.chg (HH1.out.trans hch) fun h => by unfold onlyB at h; omega)
  replace HBD := Lib.hid (HBD.out.chg hch fun h => by unfold onlyB at h; omega)
  replace HOD := Lib.hid (HOD.out.chg hch fun b h1 h2 => by unfold onlyB at h2; omega)
  have HO3 := Lib.hid (HOD.out.ats.more (S' := fun b => W.heap.size + 2 ≤ b) fun b h => h.1)
  have HV := Lib.hid (Held7.of HBD.out)
  have hz1 := HBD.out.lt
  clear hcu hch HC1 HH1 HR0 HQ0
  cases q with
  | true =>
    have HK := Lib.hid (callB_bent (R := W.heap.size) (H := w1.heap.size) HC3.out hlt (by omega) HBD.out.lt)
    have hR3 := HR3.out
    obtain ⟨u0, u1, u2, u3, u4, u5, u6, v0, v1, v2, v3, v4, v5, v6⟩ := box_seven hR3
    have hV3 := HV.out
    clear hR3
    go_wp2_with fail
    go_region_held3 (fun w' => w'.cell? ⟨w1.heap.size, 0, none⟩ = some (.int .i64 z0) ∧ w'.cell? ⟨w1.heap.size, 1, none⟩ = some (.int .i64 z1) ∧ w'.cell? ⟨w1.heap.size, 2, none⟩ = some (.int .i64 z2) ∧ w'.cell? ⟨w1.heap.size, 3, none⟩ = some (.string z3) ∧ w'.cell? ⟨w1.heap.size, 4, none⟩ = some (.slice A1 z4 z7) ∧ w'.cell? ⟨w1.heap.size, 5, none⟩ = some (.slice A2 z5 z8) ∧ w'.cell? ⟨w1.heap.size, 6, none⟩ = some (.slice A3 z6 z9))
      (first | with_reducible exact Held7.drew HV.out | with_reducible exact Held7.set (by assumption) (by omega) _ _ _ _ _ _ _ | with_reducible exact Held7.block (by assumption) hblk)
      (first | (go_at_call 124; refine (HK.out _ (by first | exact (Later.rfl' _).drew.chg _ | exact ((Later.rfl' w3).drew.chg _).trans (chain_chg _ _ _ _ _ _ _ _ _))).mono ?_; rintro r w4 ⟨d2, y0, y1, y2, y3, B1, y4, y7, B2, y5, y8, B3, y6, y9, rfl, ho2, hM2, hcu4, hch4, hqR, hqQ, hblk⟩; have hQ4 := box_blk HQ3.out hqQ; obtain ⟨q0, q1, q2, q3, q4, q5, q6, e0, e1, e2, e3, e4, e5, e6⟩ := box_seven hQ4; first | (have hR4 := box_blk (HR3.out.later (Later.rfl' w3).drew) hqR; obtain ⟨r0, r1, r2, r3, r4, r5, r6, f0, f1, f2, f3, f4, f5, f6⟩ := box_seven hR4) | (have hR4 := box_blk (box_chain (HR3.out.later (Later.rfl' w3).drew) (.int .i64 z0) (.int .i64 z1) (.int .i64 z2) (.string z3) (.slice A1 z4 z7) (.slice A2 z5 z8) (.slice A3 z6 z9)) hqR; obtain ⟨r0, r1, r2, r3, r4, r5, r6, f0, f1, f2, f3, f4, f5, f6⟩ := box_seven hR4)))
    all_goals
      (rename_i hHL; clear hHL
       have HO2 := Lib.hid ho2; have HM2 := Lib.hid hM2; have HC4 := Lib.hid hcu4; have HH4 := Lib.hid (HH3.out.trans (hch4.more fun k hk => by unfold freshB; omega))
       have HO4 := Lib.hid ((HO3.out.chg hch4 fun b h1 h2 => by omega).more fun b h => h)
       have hqz := hQ4.lt
       have hrz := hR4.lt
       clear ho2 hM2 hcu4 hch4 hQ4 hR4 hqR hqQ hblk u0 u1 u2 u3 u4 u5 u6 v0 v1 v2 v3 v4 v5 v6
       go_wp2_with fail
       exact bodyPost_ret (v := .tuple #[.agg #[.int .i64 z0, .int .i64 z1, .int .i64 z2, .string z3, .slice A1 z4 z7, .slice A2 z5 z8, .slice A3 z6 z9], .agg #[.int .i64 y0, .int .i64 y1, .int .i64 y2, .string y3, .slice B1 y4 y7, .slice B2 y5 y8, .slice B3 y6 y9]]) (by simp [results, Try.results62, go_sem, r0, r1, r2, r3, r4, r5, r6, q0, q1, q2, q3, q4, q5, q6]) rfl (pair_end2 (w4 := w4) rfl HO4.out HO2.out HC4.out HH4.out hlt (Nat.le_trans HMD.out (by decide)) (Nat.le_trans HM2.out (by decide)) (by first | with_reducible exact (chain_chg _ _ _ _ _ _ _ _ _).more (fun k hk => .inr hk) | with_reducible exact ((chain_chg _ _ _ _ _ _ _ _ _).more (fun k hk => .inl hk)).trans ((chain_chg _ _ _ _ _ _ _ _ _).more (fun k hk => .inr hk)) | with_reducible exact ((chain_chg _ _ _ _ _ _ _ _ _).more (fun k hk => .inr hk)).trans ((chain_chg _ _ _ _ _ _ _ _ _).more (fun k hk => .inl hk)))))
  | false =>
    have hHR := HR3.out.lt; have hHD := HBD.out.lt
    replace HO3 := Lib.hid (HOD.out.ats.more (S' := fun b => W.heap.size + 2 ≤ b ∧ b < w3.heap.size) fun b h => ⟨h.1, by omega⟩)
    have hv7 := HBD.out
    obtain ⟨v0, v1, v2, v3, v4, v5, v6, vf0, vf1, vf2, vf3, vf4, vf5, vf6⟩ := box_seven hv7
    clear hv7
    go_wp2_with fail
    refine (specCopy d (by have := HMD.out; omega) _ _ _ HO3.out).mono ?_; rintro e w4 ⟨⟨y0, y1, y2, y3, B1, y4, y7, B2, y5, y8, B3, y6, y9, rfl, ho⟩, hb⟩
    clear v0 v1 v2 v3 v4 v5 v6 vf0 vf1 vf2 vf3 vf4 vf5 vf6 HV
    obtain ⟨k, n, s, t, l, cl, rs, rfl⟩ := Vl.shape d
    obtain ⟨D1, c1, D2, c2, D3, c3, e7, _⟩ := ho.ats.val
    simp only [List.cons.injEq, Value.int.injEq, Value.string.injEq, Value.slice.injEq, and_true, true_and] at e7
    obtain ⟨e0, e1, e2, e3, ⟨e41, e42, e43⟩, ⟨e51, e52, e53⟩, ⟨e61, e62, e63⟩⟩ := e7
    subst e0 e1 e2 e3 e41 e42 e43 e51 e52 e53 e61 e62 e63
    obtain ⟨m, hm⟩ : ∃ m, m = rs.length := ⟨_, rfl⟩
    rw [← hm] at ho ⊢
    have hzz := hb.size
    have hl4 : Later w3 (w4.alloc (.cells #[.int .i64 y0, .int .i64 y1, .int .i64 y2, .string y3, .slice B1 l.length y7, .slice B2 cl.length y8, .slice B3 m y9] 28)) := hb.alloc _
    have HB5 := Lib.hid (box_alloc w4 #[.int .i64 y0, .int .i64 y1, .int .i64 y2, .string y3, .slice B1 l.length y7, .slice B2 cl.length y8, .slice B3 m y9] 28)
    have HR := Lib.hid (HR3.out.later hl4); have HQ := Lib.hid (HQ3.out.later hl4)
    replace HBD := Lib.hid (HBD.out.later hl4)
    have HOW := Lib.hid (ho.later ((Later.rfl' w4).alloc (.cells #[.int .i64 y0, .int .i64 y1, .int .i64 y2, .string y3, .slice B1 l.length y7, .slice B2 cl.length y8, .slice B3 m y9] 28)))
    have HC := Lib.hid (HC3.out.later hl4); have HH := Lib.hid (HH3.out.trans (hl4.chg _))
    have HO := Lib.hid (HO3.out.later hl4)
    have H5Z : Hid (W.heap.size + 2 ≤ w1.heap.size ∧ w1.heap.size < w3.heap.size ∧ w3.heap.size ≤ w4.heap.size) := ⟨by omega, by omega, hzz⟩
    have HM4 := Lib.hid hm
    have hzh := H5Z.out
    clear hl4 ho hb hzz hHR hHD HR3 HQ3 HO3 HC3 HH3 HOD hm
    have y6 := HB5.out.cell (j := 6) rfl
    by_cases h0 : m = 0
    · have h0' : ¬ (0 : Int) < (m : Int) := by omega
      clear h0
      replace HO := Lib.hid (HO.out.more (S' := fun b => W.heap.size + 2 ≤ b) fun b h => h.1)
      have HV1 := Lib.hid (Held7.of HBD.out); have HV2 := Lib.hid (Held7.of HB5.out)
      have hR4 := HR.out; have hQ4 := HQ.out
      obtain ⟨r0, r1, r2, r3, r4, r5, r6, f0, f1, f2, f3, f4, f5, f6⟩ := box_seven hR4
      obtain ⟨q0, q1, q2, q3, q4, q5, q6, e0, e1, e2, e3, e4, e5, e6⟩ := box_seven hQ4
      have hqz := hQ4.lt
      have hrz := hR4.lt
      have hbz := HBD.out.lt
      have hb5 := HB5.out.lt
      have h5z := H5Z.out
      have hV1 := HV1.out; have hV2 := HV2.out
      clear hR4 hQ4
      go_wp2_with fail
      go_region_held3 (fun w' => (w'.cell? ⟨w1.heap.size, 0, none⟩ = some (.int .i64 z0) ∧ w'.cell? ⟨w1.heap.size, 1, none⟩ = some (.int .i64 z1) ∧ w'.cell? ⟨w1.heap.size, 2, none⟩ = some (.int .i64 z2) ∧ w'.cell? ⟨w1.heap.size, 3, none⟩ = some (.string z3) ∧ w'.cell? ⟨w1.heap.size, 4, none⟩ = some (.slice A1 z4 z7) ∧ w'.cell? ⟨w1.heap.size, 5, none⟩ = some (.slice A2 z5 z8) ∧ w'.cell? ⟨w1.heap.size, 6, none⟩ = some (.slice A3 z6 z9)) ∧ (w'.cell? ⟨w4.heap.size, 0, none⟩ = some (.int .i64 y0) ∧ w'.cell? ⟨w4.heap.size, 1, none⟩ = some (.int .i64 y1) ∧ w'.cell? ⟨w4.heap.size, 2, none⟩ = some (.int .i64 y2) ∧ w'.cell? ⟨w4.heap.size, 3, none⟩ = some (.string y3) ∧ w'.cell? ⟨w4.heap.size, 4, none⟩ = some (.slice B1 l.length y7) ∧ w'.cell? ⟨w4.heap.size, 5, none⟩ = some (.slice B2 cl.length y8) ∧ w'.cell? ⟨w4.heap.size, 6, none⟩ = some (.slice B3 m y9)))
        (refine ⟨?_, ?_⟩ <;> repeat (first | with_reducible exact HV1.out | with_reducible exact HV2.out | with_reducible refine Held7.drew ?_ | with_reducible refine Held7.set ?_ (by omega) _ _ _ _ _ _ _))
        (fail)
      all_goals
        (rename_i hHL; clear hHL hV1 hV2
         go_wp2_with fail
         exact bodyPost_ret (v := .tuple #[.agg #[.int .i64 z0, .int .i64 z1, .int .i64 z2, .string z3, .slice A1 z4 z7, .slice A2 z5 z8, .slice A3 z6 z9], .agg #[.int .i64 y0, .int .i64 y1, .int .i64 y2, .string y3, .slice B1 l.length y7, .slice B2 cl.length y8, .slice B3 m y9]]) (by simp [results, Try.results62, go_sem, r0, r1, r2, r3, r4, r5, r6, q0, q1, q2, q3, q4, q5, q6]) rfl (pair_end2 (w4 := (w4.alloc (.cells #[.int .i64 y0, .int .i64 y1, .int .i64 y2, .string y3, .slice B1 l.length y7, .slice B2 cl.length y8, .slice B3 m y9] 28))) rfl HO.out (HOW.out.ats.more (S' := fun b => W.heap.size + 2 ≤ b) fun b h => by omega) HC.out HH.out hlt (Nat.le_trans HMD.out (by decide)) (Nat.le_trans HMD.out (by decide)) (by repeat (first | with_reducible exact Chg.rfl' _ _ | with_reducible refine chg_drew ?_ | with_reducible refine chg_chain ?_ (.inl rfl) _ _ _ _ _ _ _ | with_reducible refine chg_chain ?_ (.inr rfl) _ _ _ _ _ _ _))))
    · have h0' : (0 : Int) < (m : Int) := by omega
      clear h0
      go_wp2_with fail
      refine (drawOnce 2 g (by omega) (by omega) _ HC.out).mono ?_; rintro e w5 ⟨⟨q, rfl⟩, hcu, hch⟩
      clear y6
      have hz5 := HB5.out.lt
      replace HR := Lib.hid (HR.out.chg hch fun h => by unfold onlyB at h; omega); replace HQ := Lib.hid (HQ.out.chg hch fun h => by unfold onlyB at h; omega)
      replace HBD := Lib.hid (HBD.out.chg hch fun h => by unfold onlyB at h; omega); replace HB5 := Lib.hid (HB5.out.chg hch fun h => by unfold onlyB at h; have := H5Z.out; omega)
      replace HO := Lib.hid (HO.out.chg hch fun b h1 h2 => by unfold onlyB at h2; omega); replace HOW := Lib.hid (HOW.out.chg hch fun b h1 h2 => by unfold onlyB at h2; omega)
      replace HC := Lib.hid hcu; replace HH := Lib.hid (HH.out.trans (hch.more (S' := freshB g W.heap.size) fun k hk => .inl hk))
      clear hcu hch
      cases q with
      | false =>
        replace HO := Lib.hid (HO.out.more (S' := fun b => W.heap.size + 2 ≤ b) fun b h => h.1)
        have HV1 := Lib.hid (Held7.of HBD.out); have HV2 := Lib.hid (Held7.of HB5.out)
        have hR4 := HR.out; have hQ4 := HQ.out
        obtain ⟨r0, r1, r2, r3, r4, r5, r6, f0, f1, f2, f3, f4, f5, f6⟩ := box_seven hR4
        obtain ⟨q0, q1, q2, q3, q4, q5, q6, e0, e1, e2, e3, e4, e5, e6⟩ := box_seven hQ4
        have hqz := hQ4.lt
        have hrz := hR4.lt
        have hbz := HBD.out.lt
        have hb5 := HB5.out.lt
        have h5z := H5Z.out
        have hV1 := HV1.out; have hV2 := HV2.out
        clear hR4 hQ4
        go_wp2_with fail
        go_region_held3 (fun w' => (w'.cell? ⟨w1.heap.size, 0, none⟩ = some (.int .i64 z0) ∧ w'.cell? ⟨w1.heap.size, 1, none⟩ = some (.int .i64 z1) ∧ w'.cell? ⟨w1.heap.size, 2, none⟩ = some (.int .i64 z2) ∧ w'.cell? ⟨w1.heap.size, 3, none⟩ = some (.string z3) ∧ w'.cell? ⟨w1.heap.size, 4, none⟩ = some (.slice A1 z4 z7) ∧ w'.cell? ⟨w1.heap.size, 5, none⟩ = some (.slice A2 z5 z8) ∧ w'.cell? ⟨w1.heap.size, 6, none⟩ = some (.slice A3 z6 z9)) ∧ (w'.cell? ⟨w4.heap.size, 0, none⟩ = some (.int .i64 y0) ∧ w'.cell? ⟨w4.heap.size, 1, none⟩ = some (.int .i64 y1) ∧ w'.cell? ⟨w4.heap.size, 2, none⟩ = some (.int .i64 y2) ∧ w'.cell? ⟨w4.heap.size, 3, none⟩ = some (.string y3) ∧ w'.cell? ⟨w4.heap.size, 4, none⟩ = some (.slice B1 l.length y7) ∧ w'.cell? ⟨w4.heap.size, 5, none⟩ = some (.slice B2 cl.length y8) ∧ w'.cell? ⟨w4.heap.size, 6, none⟩ = some (.slice B3 m y9)))
          (refine ⟨?_, ?_⟩ <;> repeat (first | with_reducible exact HV1.out | with_reducible exact HV2.out | with_reducible refine Held7.drew ?_ | with_reducible refine Held7.set ?_ (by omega) _ _ _ _ _ _ _))
          (fail)
        all_goals
          (rename_i hHL; clear hHL hV1 hV2
           go_wp2_with fail
           exact bodyPost_ret (v := .tuple #[.agg #[.int .i64 z0, .int .i64 z1, .int .i64 z2, .string z3, .slice A1 z4 z7, .slice A2 z5 z8, .slice A3 z6 z9], .agg #[.int .i64 y0, .int .i64 y1, .int .i64 y2, .string y3, .slice B1 l.length y7, .slice B2 cl.length y8, .slice B3 m y9]]) (by simp [results, Try.results62, go_sem, r0, r1, r2, r3, r4, r5, r6, q0, q1, q2, q3, q4, q5, q6]) rfl (pair_end2 (w4 := w5) rfl HO.out (HOW.out.ats.more (S' := fun b => W.heap.size + 2 ≤ b) fun b h => by omega) HC.out HH.out hlt (Nat.le_trans HMD.out (by decide)) (Nat.le_trans HMD.out (by decide)) (by repeat (first | with_reducible exact Chg.rfl' _ _ | with_reducible refine chg_drew ?_ | with_reducible refine chg_chain ?_ (.inl rfl) _ _ _ _ _ _ _ | with_reducible refine chg_chain ?_ (.inr rfl) _ _ _ _ _ _ _))))
      | true =>
        have y6 := HB5.out.cell (j := 6) rfl
        obtain ⟨r0, rs', rfl⟩ : ∃ r0 rs', rs = r0 :: rs' := by
          cases rs with
          | nil => exact absurd HM4.out (by simp; omega)
          | cons a b => exact ⟨a, b, rfl⟩
        have hm2 : m = rs'.length + 1 := HM4.out
        have HOW6 := HOW.out
        rw [hm2] at HOW6
        obtain ⟨g6, rfl, hg6, hg6z, _⟩ := ats_from HOW6
        have HG := Lib.hid hm2
        have m6 := HB5.out.cell (j := 6) rfl
        have hm1 : (0 : Int) ≤ (m : Int) := by omega
        clear HOW6 hm2 y6
        have HM6 := Lib.hid m6
        go_wp2_with fail
        go_region_held3 (fun w' => w'.cell? ⟨w4.heap.size, 6, none⟩ = some (.slice (some ⟨g6, 0, none⟩) m y9))
          (first | with_reducible exact cell_drew HM6.out | with_reducible exact cell_blk (by assumption) hblk | with_reducible exact cell_put (by assumption) (by omega))
          (first | (go_at_call 126; refine (drawFrom g _ (HC.out.later (Later.rfl' _).drew)).mono ?_; rintro r w6 ⟨⟨xs, v6, rfl, hp6, hxl⟩, hcu6, hch6⟩; obtain ⟨D6, d6, rfl⟩ := pushed_shape hp6; have hchw := ((Later.rfl' w5).drew.chg (onlyB g)).trans hch6; have hblk : w6.heap[w4.heap.size]? = w5.heap[w4.heap.size]? := hchw.block _ HB5.out.lt (fun h => by unfold onlyB at h; omega); have H6 := HOW.out.chg hchw (fun b h1 h2 => by unfold onlyB at h2; omega); have e6 := HG.out; have H6' := Lib.hid H6; rw [e6] at H6; obtain ⟨g6', hge, _, hg6w, ⟨u6, hu6⟩, hf6, hset⟩ := ats_from H6; obtain rfl : g6 = g6' := (by simpa using hge); have HSET := Lib.hid hset; have HP6 := Lib.hid hp6; have HX6 := Lib.hid hxl; have HC6 := Lib.hid hcu6; have HCH := Lib.hid hchw; clear hset hp6 hxl hcu6 hch6 hchw H6 H6' e6 hge))
        all_goals
          (rename_i hHL; clear hHL
           have hs6 := HCH.out.size
           have hz5 := H5Z.out
           have hput : Chg (fun b => b = g6) w6 (w6.setCell ⟨g6, 1, none⟩ (.slice D6 xs.length d6)) := (Chg.rfl' _ w6).set rfl
           have hD : Ats (w6.setCell ⟨g6, 1, none⟩ (.slice D6 xs.length d6)) (fun b => W.heap.size + 2 ≤ b) (encV (.mk y0 y1 y2 y3 l cl (⟨r0.cells, xs⟩ :: rs'))) [.int .i64 y0, .int .i64 y1, .int .i64 y2, .string y3, .slice B1 l.length y7, .slice B2 cl.length y8, .slice (some ⟨g6, 0, none⟩) (rs'.length + 1) y9] :=
             HSET.out (fun b => W.heap.size + 2 ≤ b) xs (fun b => w5.heap.size ≤ b ∧ b < w6.heap.size) _ (fun b h => by omega) (fun b h => by omega) ((HP6.out.own encO_len).at_) (fun h => by omega)
           rw [← HG.out] at hD
           have HDD := Lib.hid hD
           have HR7 := Lib.hid ((HR.out.chg HCH.out fun h => by unfold onlyB at h; omega).chg hput fun h => by omega); have HQ7 := Lib.hid ((HQ.out.chg HCH.out fun h => by unfold onlyB at h; omega).chg hput fun h => by omega)
           have HBD7 := Lib.hid ((HBD.out.chg HCH.out fun h => by unfold onlyB at h; omega).chg hput fun h => by omega); have HB57 := Lib.hid ((HB5.out.chg HCH.out fun h => by unfold onlyB at h; omega).chg hput fun h => by omega)
           have HO7 := Lib.hid (((HO.out.chg HCH.out fun b h1 h2 => by unfold onlyB at h2; omega).chg hput fun b h1 h2 => by omega).more (S' := fun b => W.heap.size + 2 ≤ b) fun b h => h.1)
           have HC7 := Lib.hid (HC6.out.chg hput fun b hb h => by omega)
           have HH7 := Lib.hid ((HH.out.trans (HCH.out.more (S' := freshB g W.heap.size) fun k hk => .inl hk)).trans (hput.more fun k hk => .inr (by omega)))
           have HMX : Hid ((Vl.mk y0 y1 y2 y3 l cl (⟨r0.cells, xs⟩ :: rs')).cost ≤ 122000) := by
             have h1 := HMD.out; have h2 := HX6.out
             unfold Hid
             rw [Vl.cost_mk] at h1 ⊢
             simp only [sumN, List.map_cons, List.sum_cons, List.length_cons, Rw.cost] at h1 ⊢
             omega
           obtain ⟨w7, hw7⟩ : ∃ w7, w7 = w6.setCell ⟨g6, 1, none⟩ (.slice D6 xs.length d6) := ⟨_, rfl⟩
           rw [← hw7] at HR7 HQ7 HBD7 HB57 HO7 HC7 HH7 HDD
           clear hD hput HR HQ HBD HB5 HO HC HH HOW HSET HP6 HX6 HC6 HCH m6 HM6 hu6 hf6 hblk
           have HR := HR7; have HQ := HQ7; have HBD := HBD7; have HB5 := HB57; have HO := HO7; have HC := HC7; have HH := HH7
           clear HR7 HQ7 HBD7 HB57 HO7 HC7 HH7
           rw [← hw7]
           clear hw7
           have HV1 := Lib.hid (Held7.of HBD.out); have HV2 := Lib.hid (Held7.of HB5.out)
           have hR4 := HR.out; have hQ4 := HQ.out
           obtain ⟨r0, r1, r2, r3, r4, r5, r6, f0, f1, f2, f3, f4, f5, f6⟩ := box_seven hR4
           obtain ⟨q0, q1, q2, q3, q4, q5, q6, e0, e1, e2, e3, e4, e5, e6⟩ := box_seven hQ4
           have hqz := hQ4.lt
           have hrz := hR4.lt
           have hbz := HBD.out.lt
           have hb5 := HB5.out.lt
           have h5z := H5Z.out
           have hV1 := HV1.out; have hV2 := HV2.out
           clear hR4 hQ4
           go_wp2_with fail
           go_region_held3 (fun w' => (w'.cell? ⟨w1.heap.size, 0, none⟩ = some (.int .i64 z0) ∧ w'.cell? ⟨w1.heap.size, 1, none⟩ = some (.int .i64 z1) ∧ w'.cell? ⟨w1.heap.size, 2, none⟩ = some (.int .i64 z2) ∧ w'.cell? ⟨w1.heap.size, 3, none⟩ = some (.string z3) ∧ w'.cell? ⟨w1.heap.size, 4, none⟩ = some (.slice A1 z4 z7) ∧ w'.cell? ⟨w1.heap.size, 5, none⟩ = some (.slice A2 z5 z8) ∧ w'.cell? ⟨w1.heap.size, 6, none⟩ = some (.slice A3 z6 z9)) ∧ (w'.cell? ⟨w4.heap.size, 0, none⟩ = some (.int .i64 y0) ∧ w'.cell? ⟨w4.heap.size, 1, none⟩ = some (.int .i64 y1) ∧ w'.cell? ⟨w4.heap.size, 2, none⟩ = some (.int .i64 y2) ∧ w'.cell? ⟨w4.heap.size, 3, none⟩ = some (.string y3) ∧ w'.cell? ⟨w4.heap.size, 4, none⟩ = some (.slice B1 l.length y7) ∧ w'.cell? ⟨w4.heap.size, 5, none⟩ = some (.slice B2 cl.length y8) ∧ w'.cell? ⟨w4.heap.size, 6, none⟩ = some (.slice (some ⟨g6, 0, none⟩) m y9)))
             (refine ⟨?_, ?_⟩ <;> repeat (first | with_reducible exact HV1.out | with_reducible exact HV2.out | with_reducible refine Held7.drew ?_ | with_reducible refine Held7.set ?_ (by omega) _ _ _ _ _ _ _))
             (fail)
           all_goals
             (rename_i hHL; clear hHL hV1 hV2
              go_wp2_with fail
              exact bodyPost_ret (v := .tuple #[.agg #[.int .i64 z0, .int .i64 z1, .int .i64 z2, .string z3, .slice A1 z4 z7, .slice A2 z5 z8, .slice A3 z6 z9], .agg #[.int .i64 y0, .int .i64 y1, .int .i64 y2, .string y3, .slice B1 l.length y7, .slice B2 cl.length y8, .slice (some ⟨g6, 0, none⟩) m y9]]) (by simp [results, Try.results62, go_sem, r0, r1, r2, r3, r4, r5, r6, q0, q1, q2, q3, q4, q5, q6]) rfl (pair_end2 (w4 := w7) rfl HO.out HDD.out HC.out HH.out hlt (Nat.le_trans HMD.out (by decide)) HMX.out (by repeat (first | with_reducible exact Chg.rfl' _ _ | with_reducible refine chg_drew ?_ | with_reducible refine chg_chain ?_ (.inl rfl) _ _ _ _ _ _ _ | with_reducible refine chg_chain ?_ (.inr rfl) _ _ _ _ _ _ _)))))

end Go.Proofs.Ytghemlokpfipoaa
