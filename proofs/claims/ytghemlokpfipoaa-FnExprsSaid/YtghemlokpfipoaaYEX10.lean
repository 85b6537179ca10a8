/-
  Draws of expressions: l10Bent, DrawIsValidExpr: the walks.
-/
import Derived.Test.YtghemlokpfipoaaYEX9
namespace Go.Proofs.Ytghemlokpfipoaa
open Go.ChangeShapes Go.WideShapes Go.ChangeAt Go.RowKit
set_option linter.unusedVariables false
set_option linter.unusedSimpArgs false
set_option maxRecDepth 100000

def bentTexts : List ByteArray := [⟨#[108, 101, 116]⟩, ⟨#[115, 117, 109]⟩, ⟨#[]⟩, ⟨#[120]⟩]
theorem bentTexts_small : ∀ s ∈ bentTexts, s.size ≤ 100 := by decide
def bentNums : List Int := [-1, 7, 1000000001]
theorem bentNums_small : ∀ x ∈ bentNums, -2000000000 ≤ x ∧ x ≤ 2000000000 := by decide
theorem small_kind {k n x : Int} {t : ByteArray} (h : SmallE k n t) (hx : 0 ≤ x ∧ x ≤ 100) : SmallE x n t := ⟨by omega, h.2⟩
theorem small_n {k n x : Int} {t : ByteArray} (h : SmallE k n t) (hx : -2000000000 ≤ x ∧ x ≤ 2000000000) : SmallE k x t := ⟨h.1, hx, h.2.2⟩
theorem small_text {k n : Int} {t s : ByteArray} (h : SmallE k n t) (hx : s.size ≤ 100) : SmallE k n s := ⟨h.1, h.2.1, hx⟩
theorem cost_kind {k k' n n' : Int} {t : ByteArray} {args : List Ex} {M : Nat} (h : (Ex.mk k n t args).cost ≤ M) : (Ex.mk k' n' t args).cost ≤ M := by rw [costX] at *; exact h
theorem cost_text {k n : Int} {t s : ByteArray} {args : List Ex} {M : Nat} (h : (Ex.mk k n t args).cost ≤ M) (hs : s.size ≤ 100) : (Ex.mk k n s args).cost ≤ M + 100 := by rw [costX] at *; omega
theorem bent_end2 {W wr : World} {g M f m : Nat} {k n : Int} {t : ByteArray} {args : List Ex} {A : Option Addr} {c : Nat} {r : Ending} (hl : args.length = m) (hr : r = .returned (.agg #[.int .i64 k, .int .i64 n, .string t, .slice A m c])) (hd : LieX (W.heap.size + 1) f wr args (.slice A m c)) (hs : SmallE k n t) (hcost : (Ex.mk k n t args).cost ≤ M)
    (hcu : CurAt wr g) (hch : Chg (freshB g W.heap.size) W wr) (hlt : g < W.heap.size) (vs : List Value) : BentX M g W (setFrom wr W.heap.size 0 vs) r := by
  subst hl
  exact bent_end hr hd hs hcost hcu hch hlt vs
theorem cost_snoc {k n : Int} {t : ByteArray} {args : List Ex} {x : Ex} {M K : Nat} (h : (Ex.mk k n t args).cost ≤ M) (hx : x.cost ≤ K) : (Ex.mk k n t (args ++ [x])).cost ≤ M + K + 1 := by
  rw [costX] at h ⊢
  rw [costs_snoc, List.length_append, List.length_singleton]
  omega

set_option maxHeartbeats 20000000 in
theorem drawBentX (g : Nat) (W : World) (hc : CurAt W g) : Calls Try.prog 119 #[.pointer (some ⟨g, 0, none⟩)] W fun r w' => BentX 363200 g W w' r := by
  have hlt := hc.lt
  have HC0 := Lib.hid (hc.later ((Later.rfl' W).alloc (.cells #[.int .i64 0, .int .i64 0, .string ⟨#[]⟩, .slice none 0 0] 67)))
  obtain ⟨i0, hi, hz0, hz1, hz2⟩ := info_parts info_expr
  clear hc
  go_enter Try.func119, Try.ntmps119
  go_wp2_with fail
  refine ((drawExpr g _ HC0.out).mono fun r w' h => h.step (lo := W.heap.size + 1) (by rw [World.size_alloc]; exact Nat.le_refl _)).mono ?_; rintro r w1 ⟨⟨kr, nr, tr, ar, Ar, cr, rfl, hs, hm, ht⟩, hcu, hch⟩
  obtain ⟨f, hf⟩ : ∃ f, f = w1.heap.size := ⟨_, rfl⟩
  have hlo := lo_of hch
  have HS := Lib.hid hs; have HM := Lib.hid hm; have HT := Lib.hid ht; have HC1 := Lib.hid hcu; have HH1 := Lib.hid hch
  have HF := Lib.hid hf
  have hfw : W.heap.size < f := by omega
  have hfne : W.heap.size ≠ f := by omega
  have hfg : g ≠ f := by omega
  clear hs hm ht hcu hch HC0
  go_wp2_with fail
  refine (drawBelow 12 g (by omega) (by omega) _ (HC1.out.later ((Later.rfl' _).alloc (.cells #[.int .i64 kr, .int .i64 nr, .string tr, .slice Ar ar.length cr] 67)))).mono ?_; rintro q w2 ⟨⟨m, hm, rfl⟩, hcu, hch⟩
  have hB : Box w2 f [.int .i64 kr, .int .i64 nr, .string tr, .slice Ar ar.length cr] := by
    rw [hf]
    exact (box_alloc w1 #[.int .i64 kr, .int .i64 nr, .string tr, .slice Ar ar.length cr] 67).chg hch (fun h => by unfold onlyB at h; omega)
  have hc2 : Chg (onlyB g) (W.alloc (.cells #[.int .i64 0, .int .i64 0, .string ⟨#[]⟩, .slice none 0 0] 67)) w2 := (HH1.out.trans (((Later.rfl' _).alloc _).chg _)).trans hch
  have HR := Lib.hid (box_onlyX hc2 hlt)
  have HB := Lib.hid hB; have HC2 := Lib.hid hcu; have HH2 := Lib.hid hc2
  have HLI := Lib.hid (((HT.out.lie (f := f) (by omega)).later ((Later.rfl' _).alloc (.cells #[.int .i64 kr, .int .i64 nr, .string tr, .slice Ar ar.length cr] 67))).chg hch fun b h1 h2 h => by unfold onlyB at h; omega)
  have HN2 : Hid (∀ b, b < w1.heap.size → W.heap.size + 1 ≤ b → w2.heap[b]? = w1.heap[b]?) := fun b h1 h2 => (hch.block b (by rw [World.size_alloc]; omega) (fun h => by unfold onlyB at h; omega)).trans (Below.block ((Later.rfl' w1).alloc (.cells #[.int .i64 kr, .int .i64 nr, .string tr, .slice Ar ar.length cr] 67)) b h1)
  have hb4 := hB.lt
  rw [← hf]
  clear hB hc2 hcu hch HC1 HH1 hf hlo
  have hm12 : m = 0 ∨ m = 1 ∨ m = 2 ∨ m = 3 ∨ m = 4 ∨ m = 5 ∨ m = 6 ∨ m = 7 ∨ m = 8 ∨ m = 9 ∨ m = 10 ∨ m = 11 := by omega
  clear hm
  rcases hm12 with rfl | rfl | rfl | rfl | rfl | rfl | rfl | rfl | rfl | rfl | rfl | rfl
  · go_wp2_with fail
    refine (drawBelow 11 g (by omega) (by omega) _ HC2.out).mono ?_; rintro e w3 ⟨⟨x, hx, rfl⟩, hcu, hch⟩
    have hc3 : Chg (onlyB g) w2 w3 := hch
    have hB3 := HB.out.chg hc3 (fun h => by unfold onlyB at h; omega)
    have hR3 := HR.out.chg hc3 (fun h => by unfold onlyB at h; omega)
    have HL3 := Lib.hid (HLI.out.chg hc3 fun b h1 h2 h => by unfold onlyB at h; omega)
    have HF3 := Lib.hid ((fresh_only HH2.out).trans (hc3.more fun k hk => .inl hk))
    have HC3 := Lib.hid hcu
    have cg : Chg (fun b => b = f) w3 (w3.setCell ⟨f, 0, none⟩ (.int .i64 (x : Int))) := (Chg.rfl' _ w3).set rfl
    have HX := Lib.hid (hx)
    obtain ⟨b0, b1, b2, b3, e0, e1, e2, e3⟩ := box_four hB3
    obtain ⟨r0, r1, r2, r3, f0, f1, f2, f3⟩ := box_four hR3
    have hz := hR3.lt
    have hzf := hB3.lt
    have HCG := Lib.hid cg
    clear hcu hch hc3 hB3 hR3 HB HR HLI HC2 HH2 cg hx
    go_wp2_with fail
    exact bodyPost_ret (v := .agg #[.int .i64 (x : Int), .int .i64 nr, .string tr, .slice Ar ar.length cr]) (by simp [results, Try.results119, go_sem, r0, r1, r2, r3, hfne]) rfl (bent_end (wr := (w3.setCell ⟨f, 0, none⟩ (.int .i64 (x : Int)))) (f := f) rfl (HL3.out.chg HCG.out fun b h1 h2 h3 => h2 h3) (small_kind HS.out (by have := HX.out; omega)) (cost_kind (Nat.le_trans HM.out (by decide))) (HC3.out.chg HCG.out fun b hb h => by omega) (HF3.out.trans (HCG.out.more fun k hk => .inr (by omega))) hlt [.int .i64 (x : Int), .int .i64 nr, .string tr, .slice Ar ar.length cr])
  · have hjn : (ar.length + 1) * 56 ≤ 140737488355328 := by have := HM.out; rw [costX] at this; omega
    have hjm : ar.length + 1 ≤ maxLen := by have := HM.out; rw [costX] at this; unfold maxLen; omega
    have hlo2 := lo_of HH2.out
    obtain ⟨b0, b1, b2, b3, e0, e1, e2, e3⟩ := box_four HB.out
    have hz2f := HB.out.lt
    have HWD := Lib.hid (show w2.drew.heap.size = w2.heap.size from rfl)
    clear HLI
    go_wp2_with fail
    go_region_law (first
      | (refine step_append_lies _ rfl (.tmp 17) (.tmp 21) 65 rfl (W.heap.size + 1) 67 i0 (.agg #[.int .i64 0, .int .i64 0, .string ByteArray.empty, .slice none 0 0]) 4 56 Try.underlying65 hi hz0 hz1 hz2 rfl (by decide) (.slice Ar ar.length cr) ar.length ys (by simp [Act.eval, Act.put]) a1 ⟨w3.heap.size, 0, none⟩ 1 1 [.int .i64 ks, .int .i64 ns, .string ts, .slice As as_.length cs] (by simp [Act.eval, Act.put]) a2 a4.out a3.out (by omega) hjm hjn a5 (w3.heap.size + 1) (by simp) ?_; intro gg cap w4 ho4 hg4 hat4 hlt4; obtain ⟨F1, F2⟩ := a7.out gg cap w4 ho4 hg4 hat4; have hg5 := chg_grown hg4; have F1 := Lib.hid F1; have B4 := ((HB3.out.later ((Later.rfl' _).alloc _)).chg hg5 (fun h => by have := (a6.out f h.symm).2; omega)); have R4 := ((HR3.out.later ((Later.rfl' _).alloc _)).chg hg5 (fun h => by have := (a6.out W.heap.size h.symm).1; omega)); have C4 := Lib.hid ((HC3.out.later ((Later.rfl' _).alloc _)).chg hg5 (fun b hb h => by have := (a6.out b h.symm).1; omega)); have H4 := Lib.hid ((HF3.out.trans (((Later.rfl' _).alloc _).chg _)).trans (hg5.more fun b hb => (Or.inr (by have := (a6.out b hb.symm).1; omega) : freshB g W.heap.size b))); obtain ⟨m0, m1, m2, m3, mf0, mf1, mf2, mf3⟩ := box_four B4; have mz := B4.lt; have HB4 := Lib.hid B4; have HR4 := Lib.hid R4; clear ho4 hg4 hat4 hg5 B4 R4)
      | (go_simp; go_at_call 158; refine (drawLeaf g [⟨#[97]⟩] _ _ ((HC2.out.later (Later.rfl' _).drew).later ((Later.rfl' _).alloc _)) (names_box (xs := [⟨#[97]⟩]) (box_alloc _ _ _) (by have := HWD.out; omega) (by decide) (by decide) (by decide))).mono ?_; rintro e w3 hr; obtain ⟨⟨ks, ns, ts, as_, As, cs, rfl, hs9, hm9, ht9⟩, hcu9, hch9⟩ := hr.step (lo := w2.heap.size) (by rw [World.size_alloc]; have := HWD.out; omega); have hc3 : Chg (onlyB g) w2 w3 := (((Later.rfl' w2).drew.alloc _).chg _).trans hch9; have HB3 := Lib.hid (HB.out.chg hc3 (fun h => by unfold onlyB at h; omega)); have HR3 := Lib.hid (HR.out.chg hc3 (fun h => by unfold onlyB at h; omega)); have HS9 := Lib.hid hs9; have HM9 := Lib.hid hm9; have HC3 := Lib.hid hcu9; have HF3 := Lib.hid ((fresh_only HH2.out).trans (hc3.more (S' := freshB g W.heap.size) fun k hk => .inl hk)); have k3 := HB3.out.cell (j := 3) rfl; have z3 := HB3.out.lt; have HALL := Lib.hid (TopE.more (f := f) (w1 := w3) HT.out HF.out (fun b h1 h2 => (hc3.block b (by have := HF.out; omega) (fun h => by unfold onlyB at h; omega)).trans (HN2.out b h1 h2)) (by have := hc3.size; have := HF.out; omega) (by have := HF.out; omega) ((ht9.ats hs9).more fun b hb => (show w1.heap.size < b ∧ b < w3.heap.size by have := HF.out; omega)) 67); obtain ⟨ys, a1, a2, a3, a4, a5, a6, a7⟩ := HALL.out; replace a3 := Lib.hid a3; replace a4 := Lib.hid a4; replace a6 := Lib.hid a6; replace a7 := Lib.hid a7; clear HALL hs9 hm9 ht9 hcu9 hch9 hr hc3))
    all_goals
      (have cg : Chg (fun b => b = f) w4 (w4.setCell ⟨f, 3, none⟩ (.slice (some ⟨gg, 0, none⟩) (ar.length + 1) cap)) := (Chg.rfl' _ w4).set rfl
       have HCG := Lib.hid cg
       obtain ⟨r0, r1, r2, r3, f0, f1, f2, f3⟩ := box_four HR4.out
       have hz := HR4.out.lt
       clear cg k3 z3 a1 a2 a3 a4 a5 a6 a7 HB3 HR3 HC3 HF3 HB HR HC2 HH2 HN2 HT F2 b0 b1 b2 b3 e0 e1 e2 e3
       go_wp2_with fail
       exact bodyPost_ret (v := .agg #[.int .i64 kr, .int .i64 nr, .string tr, .slice (some ⟨gg, 0, none⟩) (ar.length + 1) cap]) (by simp [results, Try.results119, go_sem, r0, r1, r2, r3, hfne]) rfl (bent_end2 (wr := (w4.setCell ⟨f, 3, none⟩ (.slice (some ⟨gg, 0, none⟩) (ar.length + 1) cap))) (f := f) (args := ar ++ [Ex.mk ks ns ts as_]) (by rw [List.length_append]; rfl) rfl (F1.out.chg HCG.out fun b h1 h2 h3 => h2 h3) HS.out (Nat.le_trans (cost_snoc HM.out HM9.out) (by decide)) (C4.out.chg HCG.out fun b hb h => by omega) (H4.out.trans (HCG.out.more fun k hk => .inr (by omega))) hlt [.int .i64 kr, .int .i64 nr, .string tr, .slice (some ⟨gg, 0, none⟩) (ar.length + 1) cap]))
  · go_wp2_with fail
    refine (drawPick g _ bentTexts (by have := HB.out.lt; omega) (by decide) (by decide) _ (HC2.out.later ((Later.rfl' _).alloc _)) (box_alloc _ _ _)).mono ?_; rintro e w3 ⟨⟨x, hx, rfl⟩, hcu, hch⟩
    have hc3 : Chg (onlyB g) w2 w3 := (((Later.rfl' _).alloc _).chg _).trans hch
    have hB3 := HB.out.chg hc3 (fun h => by unfold onlyB at h; omega)
    have hR3 := HR.out.chg hc3 (fun h => by unfold onlyB at h; omega)
    have HL3 := Lib.hid (HLI.out.chg hc3 fun b h1 h2 h => by unfold onlyB at h; omega)
    have HF3 := Lib.hid ((fresh_only HH2.out).trans (hc3.more fun k hk => .inl hk))
    have HC3 := Lib.hid hcu
    have cg : Chg (fun b => b = f) w3 (w3.setCell ⟨f, 2, none⟩ (.string x)) := (Chg.rfl' _ w3).set rfl
    have HX := Lib.hid (bentTexts_small x hx)
    obtain ⟨b0, b1, b2, b3, e0, e1, e2, e3⟩ := box_four hB3
    obtain ⟨r0, r1, r2, r3, f0, f1, f2, f3⟩ := box_four hR3
    have hz := hR3.lt
    have hzf := hB3.lt
    have HCG := Lib.hid cg
    clear hcu hch hc3 hB3 hR3 HB HR HLI HC2 HH2 cg hx
    go_wp2_with fail
    exact bodyPost_ret (v := .agg #[.int .i64 kr, .int .i64 nr, .string x, .slice Ar ar.length cr]) (by simp [results, Try.results119, go_sem, r0, r1, r2, r3, hfne]) rfl (bent_end (wr := (w3.setCell ⟨f, 2, none⟩ (.string x))) (f := f) rfl (HL3.out.chg HCG.out fun b h1 h2 h3 => h2 h3) (small_text HS.out HX.out) (Nat.le_trans (cost_text HM.out HX.out) (by decide)) (HC3.out.chg HCG.out fun b hb h => by omega) (HF3.out.trans (HCG.out.more fun k hk => .inr (by omega))) hlt [.int .i64 kr, .int .i64 nr, .string x, .slice Ar ar.length cr])
  · go_wp2_with fail
    refine (drawPickInt g _ bentNums (by have := HB.out.lt; omega) (by decide) (by decide) _ (HC2.out.later ((Later.rfl' _).alloc _)) (box_alloc _ _ _)).mono ?_; rintro e w3 ⟨⟨x, hx, rfl⟩, hcu, hch⟩
    have hc3 : Chg (onlyB g) w2 w3 := (((Later.rfl' _).alloc _).chg _).trans hch
    have hB3 := HB.out.chg hc3 (fun h => by unfold onlyB at h; omega)
    have hR3 := HR.out.chg hc3 (fun h => by unfold onlyB at h; omega)
    have HL3 := Lib.hid (HLI.out.chg hc3 fun b h1 h2 h => by unfold onlyB at h; omega)
    have HF3 := Lib.hid ((fresh_only HH2.out).trans (hc3.more fun k hk => .inl hk))
    have HC3 := Lib.hid hcu
    have cg : Chg (fun b => b = f) w3 (w3.setCell ⟨f, 1, none⟩ (.int .i64 x)) := (Chg.rfl' _ w3).set rfl
    have HX := Lib.hid (bentNums_small x hx)
    obtain ⟨b0, b1, b2, b3, e0, e1, e2, e3⟩ := box_four hB3
    obtain ⟨r0, r1, r2, r3, f0, f1, f2, f3⟩ := box_four hR3
    have hz := hR3.lt
    have hzf := hB3.lt
    have HCG := Lib.hid cg
    clear hcu hch hc3 hB3 hR3 HB HR HLI HC2 HH2 cg hx
    go_wp2_with fail
    exact bodyPost_ret (v := .agg #[.int .i64 kr, .int .i64 x, .string tr, .slice Ar ar.length cr]) (by simp [results, Try.results119, go_sem, r0, r1, r2, r3, hfne]) rfl (bent_end (wr := (w3.setCell ⟨f, 1, none⟩ (.int .i64 x))) (f := f) rfl (HL3.out.chg HCG.out fun b h1 h2 h3 => h2 h3) (small_n HS.out HX.out) (cost_kind (Nat.le_trans HM.out (by decide))) (HC3.out.chg HCG.out fun b hb h => by omega) (HF3.out.trans (HCG.out.more fun k hk => .inr (by omega))) hlt [.int .i64 kr, .int .i64 x, .string tr, .slice Ar ar.length cr])
  · go_wp2_with fail
    go_loopw [4] (fun i wr => ∃ (j : Nat) (k n : Int) (t : ByteArray) (args : List Ex) (A : Option Addr) (c : Nat), i = .int .i64 (j : Int) ∧ j ≤ 7 ∧ Box wr f [.int .i64 k, .int .i64 n, .string t, .slice A args.length c] ∧ Box wr W.heap.size [.int .i64 0, .int .i64 0, .string ⟨#[]⟩, .slice none 0 0] ∧ SmallE k n t ∧ (Ex.mk k n t args).cost ≤ 363000 + 2 * j ∧ LieX (W.heap.size + 1) f wr args (.slice A args.length c) ∧ CurAt wr g ∧ Chg (freshB g W.heap.size) W wr) (fun i _ => 7 - (intOf i).toNat)
    case atStart => exact ⟨0, kr, nr, tr, ar, Ar, cr, rfl, by omega, HB.out, HR.out, HS.out, HM.out, HLI.out, HC2.out, fresh_only HH2.out⟩
    case round =>
      obtain ⟨j, k, n, t, args, A, c, rfl, hj, hB, hR, hs, hm, hl, hcu, hch⟩ := hrel
      clear HB HR HS HM HLI HC2 HH2 HN2 HT hb4
      have HB := Lib.hid hB; have HR := Lib.hid hR; have HS := Lib.hid hs; have HM := Lib.hid hm; have HL := Lib.hid hl; have HC := Lib.hid hcu; have HH := Lib.hid hch
      obtain ⟨b0, b1, b2, b3, e0, e1, e2, e3⟩ := box_four hB
      have hzf := hB.lt
      clear hB hs hm hl hcu hch
      by_cases hj7 : j < 7
      · have hki : (j : Int) < 7 := by omega
        have hnj : SmallE 1 (j : Int) ⟨#[]⟩ := ⟨by omega, by omega, by decide⟩
        clear hR
        go_wp2_with fail
        go_region_law (first
          | (go_simp; go_at_call 161; refine (specOpA 1 (.mk k n t args) (.mk 1 (j : Int) ⟨#[]⟩ []) [.int .i64 k, .int .i64 n, .string t, .slice A args.length c] [.int .i64 1, .int .i64 (j : Int), .string ⟨#[]⟩, .slice none 0 0] (fun b => W.heap.size + 1 ≤ b ∧ b ≠ f) _ (fun x hx => by have := HZ3.out; omega) (HL3.out.ats HS.out) ((LieX.nil (W.heap.size + 1) f w3).ats hnj)).mono ?_; rintro e w4 ⟨⟨A4, c4, rfl, hat4⟩, hb4⟩; have HAT := Lib.hid hat4; have B4 := HB3.out.later hb4; have R4 := Lib.hid (HR3.out.later hb4); have HC4 := Lib.hid (HC3.out.later hb4); have HH4 := Lib.hid (HH3.out.trans (hb4.chg _)); obtain ⟨m0, m1, m2, m3, mf0, mf1, mf2, mf3⟩ := box_four B4; have mz := B4.lt; have HB4 := Lib.hid B4; clear hat4 hb4 B4)
          | (go_simp; go_at_call 162; refine (specNumX _ _).mono ?_; rintro e w3 ⟨rfl, hb3⟩; have hl3 := (Later.rfl' wr).drew.trans hb3; have HB3 := Lib.hid (HB.out.later hl3); have HR3 := Lib.hid (HR.out.later hl3); have HL3 := Lib.hid (HL.out.later hl3); have HC3 := Lib.hid (HC.out.later hl3); have HH3 := Lib.hid (HH.out.trans (hl3.chg _)); have HZ3 : Hid (W.heap.size + 1 ≤ w3.heap.size ∧ f < w3.heap.size) := ⟨by have := HB3.out.lt; omega, HB3.out.lt⟩; obtain ⟨d0, d1, d2, d3, _⟩ := box_four HB3.out; have dz := HB3.out.lt; clear hb3 hl3))
        all_goals
          (have cg := chg_setFrom (g := f) [.int .i64 6, .int .i64 1, .string ⟨#[]⟩, .slice A4 2 c4] w4 0
           have J1 : Hid (Box (setFrom w4 f 0 [.int .i64 6, .int .i64 1, .string ⟨#[]⟩, .slice A4 2 c4]) f [.int .i64 6, .int .i64 1, .string ⟨#[]⟩, .slice A4 2 c4]) := (((HB4.out.set 0 (.int .i64 6)).set 1 (.int .i64 1)).set 2 (.string ⟨#[]⟩)).set 3 (.slice A4 2 c4)
           have J2 := Lib.hid (R4.out.chg cg hfne)
           have J3 : Hid (LieX (W.heap.size + 1) f (setFrom w4 f 0 [.int .i64 6, .int .i64 1, .string ⟨#[]⟩, .slice A4 2 c4]) [.mk k n t args, .mk 1 (j : Int) ⟨#[]⟩ []] (.slice A4 2 c4)) := LieX.chg HAT.out cg fun b h1 h2 h3 => h2 h3
           have J4 := Lib.hid (HC4.out.chg cg fun b hb h => by omega)
           have J5 := Lib.hid (HH4.out.trans (cg.more fun k hk => (Or.inr (by omega) : freshB g W.heap.size k)))
           have J6 : Hid ((Ex.mk 6 1 ⟨#[]⟩ [.mk k n t args, .mk 1 (j : Int) ⟨#[]⟩ []]).cost ≤ 363000 + 2 * (j + 1)) := by unfold Hid; rw [costX, costs_two, cost_leafX, show (⟨#[]⟩ : ByteArray).size = 0 from rfl]; have := HM.out; simp only [List.length_cons, List.length_nil]; omega
           clear cg d0 d1 d2 d3 dz m0 m1 m2 m3 mf0 mf1 mf2 mf3 mz b0 b1 b2 b3 e0 e1 e2 e3 hzf HB HR HL HC HH HB3 HR3 HL3 HC3 HH3
           go_wp2_with fail
           go_roundw
           case rel => exact ⟨j + 1, 6, 1, ⟨#[]⟩, [.mk k n t args, .mk 1 (j : Int) ⟨#[]⟩ []], A4, c4, by go_num, by omega, J1.out, J2.out, ⟨by omega, by omega, by decide⟩, J6.out, J3.out, J4.out, J5.out⟩
           case measure => simp [intOf]; omega)
      · obtain ⟨r0, r1, r2, r3, f0, f1, f2, f3⟩ := box_four hR
        have hz := hR.lt
        have : j = 7 := by omega
        subst this
        clear hR
        go_wp2_with fail
        exact bodyPost_ret (v := .agg #[.int .i64 k, .int .i64 n, .string t, .slice A args.length c]) (by simp [results, Try.results119, go_sem, r0, r1, r2, r3, hfne]) rfl (bent_end (wr := wr) (f := f) rfl HL.out HS.out (Nat.le_trans HM.out (by decide)) HC.out HH.out hlt [.int .i64 k, .int .i64 n, .string t, .slice A args.length c])
  · obtain ⟨b0, b1, b2, b3, e0, e1, e2, e3⟩ := box_four HB.out
    obtain ⟨r0, r1, r2, r3, f0, f1, f2, f3⟩ := box_four HR.out
    have hz := HR.out.lt
    have hzf := HB.out.lt
    clear HB HR
    go_wp2_with fail
    exact bodyPost_ret (v := .agg #[.int .i64 kr, .int .i64 nr, .string tr, .slice Ar ar.length cr]) (by simp [results, Try.results119, go_sem, r0, r1, r2, r3, hfne]) rfl (bent_end (wr := w2) (f := f) rfl HLI.out HS.out (Nat.le_trans HM.out (by decide)) HC2.out (fresh_only HH2.out) hlt [.int .i64 kr, .int .i64 nr, .string tr, .slice Ar ar.length cr])
  · obtain ⟨b0, b1, b2, b3, e0, e1, e2, e3⟩ := box_four HB.out
    obtain ⟨r0, r1, r2, r3, f0, f1, f2, f3⟩ := box_four HR.out
    have hz := HR.out.lt
    have hzf := HB.out.lt
    clear HB HR
    go_wp2_with fail
    exact bodyPost_ret (v := .agg #[.int .i64 kr, .int .i64 nr, .string tr, .slice Ar ar.length cr]) (by simp [results, Try.results119, go_sem, r0, r1, r2, r3, hfne]) rfl (bent_end (wr := w2) (f := f) rfl HLI.out HS.out (Nat.le_trans HM.out (by decide)) HC2.out (fresh_only HH2.out) hlt [.int .i64 kr, .int .i64 nr, .string tr, .slice Ar ar.length cr])
  · obtain ⟨b0, b1, b2, b3, e0, e1, e2, e3⟩ := box_four HB.out
    obtain ⟨r0, r1, r2, r3, f0, f1, f2, f3⟩ := box_four HR.out
    have hz := HR.out.lt
    have hzf := HB.out.lt
    clear HB HR
    go_wp2_with fail
    exact bodyPost_ret (v := .agg #[.int .i64 kr, .int .i64 nr, .string tr, .slice Ar ar.length cr]) (by simp [results, Try.results119, go_sem, r0, r1, r2, r3, hfne]) rfl (bent_end (wr := w2) (f := f) rfl HLI.out HS.out (Nat.le_trans HM.out (by decide)) HC2.out (fresh_only HH2.out) hlt [.int .i64 kr, .int .i64 nr, .string tr, .slice Ar ar.length cr])
  · obtain ⟨b0, b1, b2, b3, e0, e1, e2, e3⟩ := box_four HB.out
    obtain ⟨r0, r1, r2, r3, f0, f1, f2, f3⟩ := box_four HR.out
    have hz := HR.out.lt
    have hzf := HB.out.lt
    clear HB HR
    go_wp2_with fail
    exact bodyPost_ret (v := .agg #[.int .i64 kr, .int .i64 nr, .string tr, .slice Ar ar.length cr]) (by simp [results, Try.results119, go_sem, r0, r1, r2, r3, hfne]) rfl (bent_end (wr := w2) (f := f) rfl HLI.out HS.out (Nat.le_trans HM.out (by decide)) HC2.out (fresh_only HH2.out) hlt [.int .i64 kr, .int .i64 nr, .string tr, .slice Ar ar.length cr])
  · obtain ⟨b0, b1, b2, b3, e0, e1, e2, e3⟩ := box_four HB.out
    obtain ⟨r0, r1, r2, r3, f0, f1, f2, f3⟩ := box_four HR.out
    have hz := HR.out.lt
    have hzf := HB.out.lt
    clear HB HR
    go_wp2_with fail
    exact bodyPost_ret (v := .agg #[.int .i64 kr, .int .i64 nr, .string tr, .slice Ar ar.length cr]) (by simp [results, Try.results119, go_sem, r0, r1, r2, r3, hfne]) rfl (bent_end (wr := w2) (f := f) rfl HLI.out HS.out (Nat.le_trans HM.out (by decide)) HC2.out (fresh_only HH2.out) hlt [.int .i64 kr, .int .i64 nr, .string tr, .slice Ar ar.length cr])
  · obtain ⟨b0, b1, b2, b3, e0, e1, e2, e3⟩ := box_four HB.out
    obtain ⟨r0, r1, r2, r3, f0, f1, f2, f3⟩ := box_four HR.out
    have hz := HR.out.lt
    have hzf := HB.out.lt
    clear HB HR
    go_wp2_with fail
    exact bodyPost_ret (v := .agg #[.int .i64 kr, .int .i64 nr, .string tr, .slice Ar ar.length cr]) (by simp [results, Try.results119, go_sem, r0, r1, r2, r3, hfne]) rfl (bent_end (wr := w2) (f := f) rfl HLI.out HS.out (Nat.le_trans HM.out (by decide)) HC2.out (fresh_only HH2.out) hlt [.int .i64 kr, .int .i64 nr, .string tr, .slice Ar ar.length cr])
  · obtain ⟨b0, b1, b2, b3, e0, e1, e2, e3⟩ := box_four HB.out
    obtain ⟨r0, r1, r2, r3, f0, f1, f2, f3⟩ := box_four HR.out
    have hz := HR.out.lt
    have hzf := HB.out.lt
    clear HB HR
    go_wp2_with fail
    exact bodyPost_ret (v := .agg #[.int .i64 kr, .int .i64 nr, .string tr, .slice Ar ar.length cr]) (by simp [results, Try.results119, go_sem, r0, r1, r2, r3, hfne]) rfl (bent_end (wr := w2) (f := f) rfl HLI.out HS.out (Nat.le_trans HM.out (by decide)) HC2.out (fresh_only HH2.out) hlt [.int .i64 kr, .int .i64 nr, .string tr, .slice Ar ar.length cr])

end Go.Proofs.Ytghemlokpfipoaa
