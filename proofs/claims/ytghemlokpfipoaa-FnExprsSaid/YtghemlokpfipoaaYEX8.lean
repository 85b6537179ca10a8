/-
  Draws of expressions: l10Make at whatever depth; l10Draw: the walks.
-/
import Derived.Test.YtghemlokpfipoaaYEX7
import Derived.Test.YtghemlokpfipoaaYE10
namespace Go.Proofs.Ytghemlokpfipoaa
open Go.ChangeShapes Go.WideShapes Go.ChangeAt Go.RowKit
set_option linter.unusedVariables false
set_option linter.unusedSimpArgs false
set_option maxRecDepth 100000


theorem drawMake_leaf (d : Nat) (hd : d < 2) : MakeQ d := by
  intro g xs v W hc hn hlen
  have hlt := hc.lt
  have hme := mX_ge d
  have HN := Lib.hid (fun w' (h : Chg (onlyB g) (W.alloc (.cells #[.int .i64 0, .int .i64 0, .string ⟨#[]⟩, .slice none 0 0] 67)) w') => (hn.later ((Later.rfl' W).alloc (.cells #[.int .i64 0, .int .i64 0, .string ⟨#[]⟩, .slice none 0 0] 67))).chg h)
  have HC0 := Lib.hid (hc.later ((Later.rfl' W).alloc (.cells #[.int .i64 0, .int .i64 0, .string ⟨#[]⟩, .slice none 0 0] 67)))
  obtain ⟨pb, po, pc, rfl, _⟩ := hn.cell
  have hd2 : (d : Int) < 2 := by omega
  clear hc hn
  go_enter Try.func195, Try.ntmps195
  go_wp2_with fail
  refine ((drawLeaf g xs _ _ HC0.out (HN.out _ (Chg.rfl' _ _))).mono fun r w' h => h.step (lo := W.heap.size + 1) (by rw [World.size_alloc]; exact Nat.le_refl _)).mono ?_; rintro r w1 ⟨⟨kr, nr, tr, ar, Ar, cr, rfl, hs, hm, ht⟩, hcu, hch⟩
  have HS := Lib.hid hs; have HM := Lib.hid hm; have HT := Lib.hid ht; have HC := Lib.hid hcu; have HH := Lib.hid hch
  clear hs hm ht hcu hch HC0 HN
  have hR := box_onlyX HH.out hlt
  obtain ⟨r0, r1, r2, r3, f0, f1, f2, f3⟩ := box_four hR
  have hz := hR.lt
  clear hR
  go_wp2_with fail
  exact bodyPost_ret (v := .agg #[.int .i64 kr, .int .i64 nr, .string tr, .slice Ar ar.length cr]) (by simp [results, Try.results195, go_sem, r0, r1, r2, r3]) rfl (fill_endX rfl HT.out HS.out (by have := HM.out; omega) HC.out (fresh_only HH.out) hlt [.int .i64 kr, .int .i64 nr, .string tr, .slice Ar ar.length cr])
theorem drawMake : ∀ d, MakeQ d
  | 0 => drawMake_leaf 0 (by omega)
  | 1 => drawMake_leaf 1 (by omega)
  | d + 2 => drawMake_succ (d + 1) (by omega) (drawMake (d + 1))
def abcList : List ByteArray := [⟨#[97]⟩, ⟨#[98]⟩, ⟨#[99]⟩]
theorem abc_small : ∀ s ∈ abcList, s.size ≤ 100 := by decide
theorem mX_le {d : Nat} (h : d ≤ 4) : mX d ≤ 363000 := by
  have : d = 0 ∨ d = 1 ∨ d = 2 ∨ d = 3 ∨ d = 4 := by omega
  rcases this with rfl | rfl | rfl | rfl | rfl <;> decide


set_option maxHeartbeats 8000000 in
theorem drawExpr (g : Nat) (W : World) (hc : CurAt W g) : Calls Try.prog 157 #[.pointer (some ⟨g, 0, none⟩)] W fun r w' => DrawnX 363000 g W w' r := by
  have hlt := hc.lt
  have HC0 := Lib.hid (hc.later (((Later.rfl' W).alloc (.cells #[.int .i64 0, .int .i64 0, .string ⟨#[]⟩, .slice none 0 0] 67)).alloc (.cells #[.string ⟨#[97]⟩, .string ⟨#[98]⟩, .string ⟨#[99]⟩] 9)))
  have hNB : NamesAt g ((W.alloc (.cells #[.int .i64 0, .int .i64 0, .string ⟨#[]⟩, .slice none 0 0] 67)).alloc (.cells #[.string ⟨#[97]⟩, .string ⟨#[98]⟩, .string ⟨#[99]⟩] 9)) abcList (.slice (some ⟨W.heap.size + 1, 0, none⟩) 3 3) := by
    have h := box_alloc (W.alloc (.cells #[.int .i64 0, .int .i64 0, .string ⟨#[]⟩, .slice none 0 0] 67)) #[.string ⟨#[97]⟩, .string ⟨#[98]⟩, .string ⟨#[99]⟩] 9
    rw [World.size_alloc] at h
    exact names_box (xs := abcList) h (by omega) (by decide) (by decide) abc_small
  have HN := Lib.hid hNB
  have CM : Hid (∀ (x : Nat), x < 4 → ∀ (w : World) (u : Value), CurAt w g → NamesAt g w abcList u → Calls Try.prog 195 #[.pointer (some ⟨g, 0, none⟩), u, .int .i64 (1 + (x : Int))] w fun r w' => DrawnX 363000 g w w' r) := fun x hx w u a b => by
    have h := drawMake (1 + x) g abcList u w a b (by simp only [abcList, List.length_cons, List.length_nil]; omega)
    rw [show ((1 + x : Nat) : Int) = 1 + (x : Int) by omega] at h
    exact h.mono fun r w' hd => hd.more (mX_le (by omega))
  clear hc hNB
  go_enter Try.func157, Try.ntmps157
  go_wp2_with fail
  refine (drawBelow 4 g (by omega) (by omega) _ HC0.out).mono ?_; rintro q w1 ⟨⟨x, hx, rfl⟩, hcu, hch⟩
  have HC1 := Lib.hid hcu; have HH1 : Hid (Chg (onlyB g) (W.alloc (.cells #[.int .i64 0, .int .i64 0, .string ⟨#[]⟩, .slice none 0 0] 67)) w1) := (((Later.rfl' _).alloc _).chg _).trans hch
  have HN1 := Lib.hid (HN.out.chg hch)
  clear hcu hch HC0 HN
  go_wp2_with fail
  refine ((CM.out x hx _ _ HC1.out HN1.out).mono fun r w' h => h.step (lo_of HH1.out)).mono ?_; rintro r w2 ⟨⟨kr, nr, tr, ar, Ar, cr, rfl, hs, hm, ht⟩, hcu, hch⟩
  have HS := Lib.hid hs; have HM := Lib.hid hm; have HT := Lib.hid ht; have HC2 := Lib.hid hcu; have HH2 := Lib.hid (HH1.out.trans hch)
  clear hs hm ht hcu hch HC1 HH1 HN1 CM
  have HV := Lib.hid (fun W' (hW : Later w2 W') => specIsValidExpr (exAt_of _ _ (((HT.out.ats HS.out).later hW))) (by have := HM.out; omega))
  have hB := box_alloc w2 #[.int .i64 kr, .int .i64 nr, .string tr, .slice Ar ar.length cr] 67
  have HBX := Lib.hid hB
  obtain ⟨b, hb⟩ : ∃ b, b = validE (.mk kr nr tr ar) := ⟨_, rfl⟩
  rw [← hb] at HV
  clear hb hB
  go_wp2_with fail
  refine (HV.out _ ((Later.rfl' _).alloc _)).mono ?_; rintro r w3 ⟨rfl, hb3⟩
  have hB3 := HBX.out.later hb3
  have hl3 : Later w2 w3 := ((Later.rfl' _).alloc _).trans hb3
  obtain ⟨b0, b1, b2, b3, _⟩ := box_four hB3
  have HC3 := Lib.hid (HC2.out.later hl3); have HH3 := Lib.hid (HH2.out.trans (hl3.chg _)); have HT3 := Lib.hid (HT.out.later hl3)
  clear hB3 hb3 hl3 HC2 HH2 HT HBX HV
  cases b with
  | true =>
    have hR := box_onlyX HH3.out hlt
    obtain ⟨r0, r1, r2, r3, f0, f1, f2, f3⟩ := box_four hR
    have hz := hR.lt
    clear hR
    go_wp2_with fail
    exact bodyPost_ret (v := .agg #[.int .i64 kr, .int .i64 nr, .string tr, .slice Ar ar.length cr]) (by simp [results, Try.results157, go_sem, r0, r1, r2, r3]) rfl (fill_endX rfl HT3.out HS.out HM.out HC3.out (fresh_only HH3.out) hlt [.int .i64 kr, .int .i64 nr, .string tr, .slice Ar ar.length cr])
  | false =>
    have hlo3 := lo_of HH3.out
    go_wp2_with fail
    refine ((drawLeaf g abcList _ _ (HC3.out.later ((Later.rfl' _).alloc _)) (names_box (xs := abcList) (box_alloc _ _ _) (by omega) (by decide) (by decide) abc_small)).mono fun r w' h => h.step (lo := W.heap.size + 1) (by rw [World.size_alloc]; omega)).mono ?_; rintro r w4 ⟨⟨ks, ns, ts, as_, As, cs, rfl, hs, hm, ht⟩, hcu, hch⟩
    have HS4 := Lib.hid hs; have HM4 := Lib.hid hm; have HT4 := Lib.hid ht; have HC4 := Lib.hid hcu; have HH4 := Lib.hid (HH3.out.trans ((((Later.rfl' _).alloc _).chg _).trans hch))
    clear hs hm ht hcu hch HC3 HH3 HT3 b0 b1 b2 b3
    have hR := box_onlyX HH4.out hlt
    obtain ⟨r0, r1, r2, r3, f0, f1, f2, f3⟩ := box_four hR
    have hz := hR.lt
    clear hR
    go_wp2_with fail
    exact bodyPost_ret (v := .agg #[.int .i64 ks, .int .i64 ns, .string ts, .slice As as_.length cs]) (by simp [results, Try.results157, go_sem, r0, r1, r2, r3]) rfl (fill_endX rfl HT4.out HS4.out (by have := HM4.out; omega) HC4.out (fresh_only HH4.out) hlt [.int .i64 ks, .int .i64 ns, .string ts, .slice As as_.length cs])

end Go.Proofs.Ytghemlokpfipoaa
