/-
  Draws of expressions: l10Make: the walk.
-/
import Derived.Test.YtghemlokpfipoaaYEX6
namespace Go.Proofs.Ytghemlokpfipoaa
open Go.ChangeShapes Go.WideShapes Go.ChangeAt Go.RowKit
set_option linter.unusedVariables false
set_option linter.unusedSimpArgs false
set_option maxRecDepth 100000

def mX : Nat → Nat
  | 0 => 3000
  | d + 1 => 3 * mX d + 3000
theorem mX_succ (d : Nat) : mX (d + 1) = 3 * mX d + 3000 := rfl
theorem mX_ge : ∀ d, 3000 ≤ mX d
  | 0 => Nat.le_refl _
  | d + 1 => by rw [mX_succ]; omega
theorem lo_of {g : Nat} {W w : World} {o : Obj} (h : Chg (onlyB g) (W.alloc o) w) : W.heap.size + 1 ≤ w.heap.size := by have := h.size; rw [World.size_alloc] at this; exact this
theorem chg_new {g : Nat} {W0 w w' : World} (h : Chg (onlyB g) W0 w) (c : Chg (fun b => w.heap.size ≤ b) w w') : Chg (onlyB g) W0 w' :=
  ⟨c.os.trans h.os, c.tape.trans h.tape, c.output.trans h.output, Nat.le_trans h.size c.size, fun k hk hne => (c.block k (Nat.lt_of_lt_of_le hk h.size) (by have := h.size; omega)).trans (h.block k hk hne)⟩
theorem fill_madeX {W wr : World} {g M : Nat} {k n : Int} {t : ByteArray} {es : List Ex} {us : List Value} {r : Ending} (h : Ats wr (fun b => W.heap.size + 1 ≤ b ∧ b < wr.heap.size) (es.flatMap encE) us) (hlo : W.heap.size + 1 ≤ wr.heap.size) (hm : es.length ≤ 100)
    (hs : SmallE k n t) (hcost : (Ex.mk k n t es).cost ≤ M) (hcu : CurAt wr g) (hch : Chg (freshB g W.heap.size) W wr) (hlt : g < W.heap.size) (vs : List Value)
    (hr : r = .returned (.agg #[.int .i64 k, .int .i64 n, .string t, .slice (some ⟨wr.heap.size, 0, none⟩) es.length es.length])) : DrawnX M g W ((setFrom wr W.heap.size 0 vs).alloc (.cells us.toArray 67)) r := by
  have c := chg_setFrom (g := W.heap.size) vs wr 0
  have e := size_setFrom (g := W.heap.size) vs wr 0
  have hT := top_made (lo := W.heap.size + 1) (w := setFrom wr W.heap.size 0 vs) (es := es) (us := us) ((h.chg c fun b h1 h2 => by omega).more fun b hb => by rw [e]; exact hb) (by rw [e]; exact hlo) hm
  rw [e] at hT
  exact ⟨⟨k, n, t, es, _, hr, hs, hcost, hT.base (Nat.le_succ _)⟩, (hcu.chg c fun b hb h => by omega).later ((Later.rfl' _).alloc _), chg_only ((hch.trans (c.more fun k hk => .inr (by omega))).trans (((Later.rfl' _).alloc _).chg _))⟩
def MakeQ (d : Nat) : Prop := ∀ (g : Nat) (xs : List ByteArray) (v : Value) (W : World), CurAt W g → NamesAt g W xs v → xs.length + 2 * d ≤ 20 → Calls Try.prog 195 #[.pointer (some ⟨g, 0, none⟩), v, .int .i64 (d : Int)] W fun r w' => DrawnX (mX d) g W w' r

set_option maxHeartbeats 40000000 in
theorem drawMake_succ (e : Nat) (he : 1 ≤ e) (ih : MakeQ e) : MakeQ (e + 1) := by
  intro g xs v W hc hn hlen
  have hlt := hc.lt
  have hme := mX_ge e
  obtain ⟨s0, si, sz0, sz1, sz2⟩ := info_parts info_string
  have HN := Lib.hid (fun w' (h : Chg (onlyB g) (W.alloc (.cells #[.int .i64 0, .int .i64 0, .string ⟨#[]⟩, .slice none 0 0] 67)) w') => (hn.later ((Later.rfl' W).alloc (.cells #[.int .i64 0, .int .i64 0, .string ⟨#[]⟩, .slice none 0 0] 67))).chg h)
  have HC0 := Lib.hid (hc.later ((Later.rfl' W).alloc (.cells #[.int .i64 0, .int .i64 0, .string ⟨#[]⟩, .slice none 0 0] 67)))
  have CM : Hid (∀ (ys : List ByteArray) (u : Value) (w : World), CurAt w g → NamesAt g w ys u → ys.length + 2 * e ≤ 20 → Calls Try.prog 195 #[.pointer (some ⟨g, 0, none⟩), u, .int .i64 (e : Int)] w fun r w' => DrawnX (mX e) g w w' r) := fun ys u w a b c => ih g ys u w a b c
  obtain ⟨pb, po, pc, rfl, hn1, hn2, _, _, hn5⟩ := hn.cell
  have hx0 : 0 < xs.length := hn.2.1
  obtain ⟨z0, hz0⟩ : ∃ z, z = xs[0] := ⟨_, rfl⟩
  have HZ0 : Hid (z0.size ≤ 100) := by unfold Hid; rw [hz0]; exact hn.2.2.2 _ (List.getElem_mem _)
  have HZC : Hid (∀ w', Chg (onlyB g) (W.alloc (.cells #[.int .i64 0, .int .i64 0, .string ⟨#[]⟩, .slice none 0 0] 67)) w' → w'.cell? ⟨pb, po, none⟩ = some (.string z0)) := fun w' h => by
    have := hn5 0 hx0 w' (Chg.trans (((Later.rfl' W).alloc _).chg _) h)
    rw [hz0]
    exact this
  have hx0i : (0 : Int) < (xs.length : Int) := by omega
  obtain ⟨D, hD⟩ : ∃ D : Int, D = ((e + 1 : Nat) : Int) := ⟨_, rfl⟩
  rw [← hD]
  have hD1 : D - 1 = (e : Int) := by omega
  have hDw : IntKind.i64.wrap (e : Int) = (e : Int) := IntWalk.i64_in _ (by omega)
  have hD2 : ¬ D < 2 := by omega
  clear hc hn ih hn5 hD hz0
  go_enter Try.func195, Try.ntmps195
  go_wp2_with fail
  refine (drawBelow 13 g (by omega) (by omega) _ HC0.out).mono ?_; rintro q w1 ⟨⟨m, hm, rfl⟩, hcu, hch⟩
  have HC1 := Lib.hid hcu; have HH1 := Lib.hid hch
  have hz1 := HZC.out _ hch
  clear hcu hch HC0
  have hm13 : m = 0 ∨ m = 1 ∨ m = 2 ∨ m = 3 ∨ m = 4 ∨ m = 5 ∨ m = 6 ∨ m = 7 ∨ m = 8 ∨ m = 9 ∨ m = 10 ∨ m = 11 ∨ m = 12 := by omega
  clear hm
  rcases hm13 with rfl | rfl | rfl | rfl | rfl | rfl | rfl | rfl | rfl | rfl | rfl | rfl | rfl
  · go_wp2_with fail
    refine (drawBelow 5 g (by omega) (by omega) _ HC1.out).mono ?_; rintro e w2 ⟨⟨o, ho, rfl⟩, hcu, hch⟩
    have HC2 := Lib.hid hcu; have HH2 := Lib.hid (HH1.out.trans hch)
    clear hcu hch HC1 HH1
    go_wp2_with fail
    refine ((CM.out xs _ _ HC2.out (HN.out _ HH2.out) (by omega)).mono fun r w' h => h.step (lo_of HH2.out)).mono ?_; rintro e w3 ⟨⟨ka, na, ta, aa, Aa, ca, rfl, hs, hm, ht⟩, hcu, hch⟩
    have HSa := Lib.hid hs; have HMa := Lib.hid hm; have HTa := Lib.hid ht
    clear hs hm ht
    have HC3 := Lib.hid hcu; have HH3 := Lib.hid (HH2.out.trans hch)
    clear hcu hch HC2 HH2
    go_wp2_with fail
    refine ((CM.out xs _ _ HC3.out (HN.out _ HH3.out) (by omega)).mono fun r w' h => h.step (lo_of HH3.out)).mono ?_; rintro e w4 ⟨⟨kb, nb, tb, ab, Ab, cb, rfl, hs, hm, ht⟩, hcu, hch⟩
    have HSb := Lib.hid hs; have HMb := Lib.hid hm; have HTb := Lib.hid ht
    clear hs hm ht
    replace HTa := Lib.hid ((HTa.out).chg hch (fun b h1 h2 e => by unfold onlyB at e; omega))
    have HC4 := Lib.hid hcu; have HH4 := Lib.hid (HH3.out.trans hch)
    clear hcu hch HC3 HH3
    go_wp2_with fail
    refine (opX (1 + (o : Int)) (by omega) _ _ _ _ _ _ _ _ _ _ _ _ (W.heap.size + 1) (2 + (mX e + mX e)) g _ (by have := HMa.out; have := HMb.out; omega) (lo_of HH4.out) HC4.out HSa.out HTa.out HSb.out HTb.out).mono ?_; rintro e w5 ⟨⟨kr, nr, tr, ar, Ar, cr, rfl, hs, hm, ht⟩, hcu, hch⟩
    have HSr := Lib.hid hs; have HMr := Lib.hid hm; have HTr := Lib.hid ht
    clear hs hm ht
    replace HTa := Lib.hid ((HTa.out).chg hch (fun b h1 h2 e => by unfold onlyB at e; omega))
    replace HTb := Lib.hid ((HTb.out).chg hch (fun b h1 h2 e => by unfold onlyB at e; omega))
    have HC5 := Lib.hid hcu; have HH5 := Lib.hid (HH4.out.trans hch)
    clear hcu hch HC4 HH4
    clear HSa HMa HTa HSb HMb HTb
    have hR := box_onlyX HH5.out hlt
    obtain ⟨r0, r1, r2, r3, f0, f1, f2, f3⟩ := box_four hR
    have hz := hR.lt
    clear hR
    go_wp2_with fail
    exact bodyPost_ret (v := .agg #[.int .i64 kr, .int .i64 nr, .string tr, .slice Ar ar.length cr]) (by simp [results, Try.results195, go_sem, r0, r1, r2, r3]) rfl (fill_endX rfl HTr.out HSr.out (by have := HMr.out; rw [mX_succ]; omega) HC5.out (fresh_only HH5.out) hlt [.int .i64 kr, .int .i64 nr, .string tr, .slice Ar ar.length cr])
  · go_wp2_with fail
    refine (drawBelow 5 g (by omega) (by omega) _ HC1.out).mono ?_; rintro e w2 ⟨⟨o, ho, rfl⟩, hcu, hch⟩
    have HC2 := Lib.hid hcu; have HH2 := Lib.hid (HH1.out.trans hch)
    clear hcu hch HC1 HH1
    go_wp2_with fail
    refine ((CM.out xs _ _ HC2.out (HN.out _ HH2.out) (by omega)).mono fun r w' h => h.step (lo_of HH2.out)).mono ?_; rintro e w3 ⟨⟨ka, na, ta, aa, Aa, ca, rfl, hs, hm, ht⟩, hcu, hch⟩
    have HSa := Lib.hid hs; have HMa := Lib.hid hm; have HTa := Lib.hid ht
    clear hs hm ht
    have HC3 := Lib.hid hcu; have HH3 := Lib.hid (HH2.out.trans hch)
    clear hcu hch HC2 HH2
    go_wp2_with fail
    refine ((CM.out xs _ _ HC3.out (HN.out _ HH3.out) (by omega)).mono fun r w' h => h.step (lo_of HH3.out)).mono ?_; rintro e w4 ⟨⟨kb, nb, tb, ab, Ab, cb, rfl, hs, hm, ht⟩, hcu, hch⟩
    have HSb := Lib.hid hs; have HMb := Lib.hid hm; have HTb := Lib.hid ht
    clear hs hm ht
    replace HTa := Lib.hid ((HTa.out).chg hch (fun b h1 h2 e => by unfold onlyB at e; omega))
    have HC4 := Lib.hid hcu; have HH4 := Lib.hid (HH3.out.trans hch)
    clear hcu hch HC3 HH3
    go_wp2_with fail
    refine (opX (1 + (o : Int)) (by omega) _ _ _ _ _ _ _ _ _ _ _ _ (W.heap.size + 1) (2 + (mX e + mX e)) g _ (by have := HMa.out; have := HMb.out; omega) (lo_of HH4.out) HC4.out HSa.out HTa.out HSb.out HTb.out).mono ?_; rintro e w5 ⟨⟨kr, nr, tr, ar, Ar, cr, rfl, hs, hm, ht⟩, hcu, hch⟩
    have HSr := Lib.hid hs; have HMr := Lib.hid hm; have HTr := Lib.hid ht
    clear hs hm ht
    replace HTa := Lib.hid ((HTa.out).chg hch (fun b h1 h2 e => by unfold onlyB at e; omega))
    replace HTb := Lib.hid ((HTb.out).chg hch (fun b h1 h2 e => by unfold onlyB at e; omega))
    have HC5 := Lib.hid hcu; have HH5 := Lib.hid (HH4.out.trans hch)
    clear hcu hch HC4 HH4
    clear HSa HMa HTa HSb HMb HTb
    have hR := box_onlyX HH5.out hlt
    obtain ⟨r0, r1, r2, r3, f0, f1, f2, f3⟩ := box_four hR
    have hz := hR.lt
    clear hR
    go_wp2_with fail
    exact bodyPost_ret (v := .agg #[.int .i64 kr, .int .i64 nr, .string tr, .slice Ar ar.length cr]) (by simp [results, Try.results195, go_sem, r0, r1, r2, r3]) rfl (fill_endX rfl HTr.out HSr.out (by have := HMr.out; rw [mX_succ]; omega) HC5.out (fresh_only HH5.out) hlt [.int .i64 kr, .int .i64 nr, .string tr, .slice Ar ar.length cr])
  · go_wp2_with fail
    refine (drawPickN g [⟨#[117]⟩, ⟨#[118]⟩, z0] _ _ (HC1.out.later ((Later.rfl' _).alloc _)) (names_box (xs := [⟨#[117]⟩, ⟨#[118]⟩, z0]) (box_alloc _ _ _) (by have := (lo_of HH1.out); omega) (by simp) (by simp) (fun x hx => by simp only [List.mem_cons, List.not_mem_nil, or_false] at hx; rcases hx with rfl | rfl | rfl; decide; decide; exact HZ0.out))).mono ?_; rintro e w2 ⟨⟨x, hx, rfl⟩, hcu, hch⟩
    have HXx := Lib.hid hx
    clear hx
    have HC2 := Lib.hid hcu; have HH2 := Lib.hid ((HH1.out.trans (((Later.rfl' _).alloc _).chg _)).trans hch)
    clear hcu hch HC1 HH1
    go_wp2_with fail
    refine ((CM.out xs _ _ HC2.out (HN.out _ HH2.out) (by omega)).mono fun r w' h => h.step (lo_of HH2.out)).mono ?_; rintro e w3 ⟨⟨ka, na, ta, aa, Aa, ca, rfl, hs, hm, ht⟩, hcu, hch⟩
    have HSa := Lib.hid hs; have HMa := Lib.hid hm; have HTa := Lib.hid ht
    clear hs hm ht
    have HC3 := Lib.hid hcu; have HH3 := Lib.hid (HH2.out.trans hch)
    clear hcu hch HC2 HH2
    have hlo3 := lo_of HH3.out
    have hnm3 := (HN.out _ HH3.out).later ((Later.rfl' w3).alloc (.cells #[.string x] 9))
    have HOW3 : Hid ((w3.alloc (.cells #[.string x] 9)).ownsRow (W.heap.size + 1) 9 1 (.slice (some ⟨w3.heap.size, 0, none⟩) 1 1) 1 [.string x]) := ⟨rfl, .inr ⟨w3.heap.size, 1, #[.string x], rfl, hlo3, heap_alloc_new w3 _, Nat.le_refl _, by unfold maxLen; omega, rfl, rfl⟩⟩
    obtain ⟨pb2, po2, pc2, heq, hn1, hn2, hn3, hn4, hn5⟩ := hnm3.cell
    have HN5 : Hid (∀ (j : Nat) (u : Value), (xs.map .string)[j]? = some u → (w3.alloc (.cells #[.string x] 9)).cell? ((⟨pb2, po2, none⟩ : Addr).add j) = some u) := fun j u hu => by
      rw [List.getElem?_map] at hu
      obtain ⟨x, hx, rfl⟩ := Option.map_eq_some_iff.1 hu
      obtain ⟨hj, rfl⟩ := List.getElem?_eq_some_iff.1 hx
      rw [add_lit]
      exact hn5 j hj _ (Chg.rfl' _ _)
    have hxl : xs.length ≤ 100 := hnm3.2.2.1
    have HXS := Lib.hid hnm3.2.2.2
    simp only [Value.slice.injEq, Option.some.injEq, Addr.mk.injEq, and_true, true_and] at heq
    obtain ⟨⟨rfl, rfl⟩, rfl⟩ := heq
    clear hnm3 hn5 hn1 hn2 hn3 hn4
    go_wp2_with (at_builtin; refine wpList_append_own _ rfl _ _ 25 rfl (W.heap.size + 1) 9 s0 (.string ByteArray.empty) 1 16 Try.underlying25 si sz0 sz1 sz2 rfl (by decide) _ _ _ rfl HOW3.out ⟨pb, po, none⟩ xs.length pc (xs.map .string) rfl (by simp) HN5.out (by simp [Value.oneCell']) (by unfold maxLen; omega) (by omega) (by rw [World.size_alloc]; omega) ?_)
    intro v2 w4 hown hgrow _
    have hgc : Chg (fun b => w3.heap.size ≤ b) w3 w4 := (((Later.rfl' w3).alloc (.cells #[.string x] 9)).chg _).trans ((chg_grown hgrow).more fun b hb => by simp only [Value.ownBlock, Option.some.injEq] at hb; omega)
    have HNN : Hid (NamesAt g w4 (x :: xs) v2) := names_row (lo := W.heap.size + 1) (by rw [show (x :: xs).length = 1 + xs.length by simp only [List.length_cons]; omega]; exact hown) (by omega) (by simp) (by simp only [List.length_cons]; omega) (fun x hx => by
      simp only [List.mem_cons] at hx
      rcases hx with rfl | hx
      · exact HXx.out
      · exact HXS.out x hx)
    replace HTa := Lib.hid (HTa.out.chg hgc fun b h1 h2 h3 => by omega)
    have HC4 := Lib.hid (HC3.out.chg hgc fun b hb h => by omega); have HH4 := Lib.hid (chg_new HH3.out hgc)
    clear hown hgrow hgc HC3 HH3 HOW3 HN5 HXS hlo3
    go_wp2_with fail
    refine ((CM.out (x :: xs) _ _ HC4.out HNN.out (by simp only [List.length_cons]; omega)).mono fun r w' h => h.step (lo_of HH4.out)).mono ?_; rintro e w5 ⟨⟨kb, nb, tb, ab, Ab, cb, rfl, hs, hm, ht⟩, hcu, hch⟩
    have HSb := Lib.hid hs; have HMb := Lib.hid hm; have HTb := Lib.hid ht
    clear hs hm ht
    replace HTa := Lib.hid ((HTa.out).chg hch (fun b h1 h2 e => by unfold onlyB at e; omega))
    have HC5 := Lib.hid hcu; have HH5 := Lib.hid (HH4.out.trans hch)
    clear hcu hch HC4 HH4
    have hR := box_onlyX HH5.out hlt
    obtain ⟨r0, r1, r2, r3, f0, f1, f2, f3⟩ := box_four hR
    have hz := hR.lt
    have HFI := Lib.hid (fill_madeX (k := 7) (n := 0) (t := x) (M := mX (e + 1)) (es := [(.mk ka na ta aa), (.mk kb nb tb ab)]) (us := [.int .i64 ka, .int .i64 na, .string ta, .slice Aa aa.length ca, .int .i64 kb, .int .i64 nb, .string tb, .slice Ab ab.length cb]) (by
      simp only [List.flatMap_cons, List.flatMap_nil, List.append_nil]
      exact (HTa.out.ats HSa.out).append ((HTb.out.ats HSb.out))) (lo_of HH5.out) (by simp) ⟨by omega, by omega, (HXx.out)⟩ (by rw [costX]; simp only [List.length_cons, List.length_nil, costs_two]; have := HMa.out; have := HMb.out; have : (x : ByteArray).size ≤ 100 := (HXx.out); rw [mX_succ]; omega) HC5.out (fresh_only HH5.out) hlt [.int .i64 7, .int .i64 0, .string x, .slice (some ⟨w5.heap.size, 0, none⟩) 2 2] rfl)
    clear hR
    go_wp2_with fail
    exact bodyPost_ret (v := .agg #[.int .i64 7, .int .i64 0, .string x, .slice (some ⟨w5.heap.size, 0, none⟩) 2 2]) (by simp [results, Try.results195, go_sem, r0, r1, r2, r3, hz, Nat.ne_of_lt hz]) rfl HFI.out
  · go_wp2_with fail
    refine ((CM.out xs _ _ HC1.out (HN.out _ HH1.out) (by omega)).mono fun r w' h => h.step (lo_of HH1.out)).mono ?_; rintro e w2 ⟨⟨ka, na, ta, aa, Aa, ca, rfl, hs, hm, ht⟩, hcu, hch⟩
    have HSa := Lib.hid hs; have HMa := Lib.hid hm; have HTa := Lib.hid ht
    clear hs hm ht
    have HC2 := Lib.hid hcu; have HH2 := Lib.hid (HH1.out.trans hch)
    clear hcu hch HC1 HH1
    go_wp2_with fail
    refine ((CM.out xs _ _ HC2.out (HN.out _ HH2.out) (by omega)).mono fun r w' h => h.step (lo_of HH2.out)).mono ?_; rintro e w3 ⟨⟨kb, nb, tb, ab, Ab, cb, rfl, hs, hm, ht⟩, hcu, hch⟩
    have HSb := Lib.hid hs; have HMb := Lib.hid hm; have HTb := Lib.hid ht
    clear hs hm ht
    replace HTa := Lib.hid ((HTa.out).chg hch (fun b h1 h2 e => by unfold onlyB at e; omega))
    have HC3 := Lib.hid hcu; have HH3 := Lib.hid (HH2.out.trans hch)
    clear hcu hch HC2 HH2
    go_wp2_with fail
    refine ((CM.out xs _ _ HC3.out (HN.out _ HH3.out) (by omega)).mono fun r w' h => h.step (lo_of HH3.out)).mono ?_; rintro e w4 ⟨⟨kc, nc, tc, ac, Ac, cc, rfl, hs, hm, ht⟩, hcu, hch⟩
    have HSc := Lib.hid hs; have HMc := Lib.hid hm; have HTc := Lib.hid ht
    clear hs hm ht
    replace HTa := Lib.hid ((HTa.out).chg hch (fun b h1 h2 e => by unfold onlyB at e; omega))
    replace HTb := Lib.hid ((HTb.out).chg hch (fun b h1 h2 e => by unfold onlyB at e; omega))
    have HC4 := Lib.hid hcu; have HH4 := Lib.hid (HH3.out.trans hch)
    clear hcu hch HC3 HH3
    have hR := box_onlyX HH4.out hlt
    obtain ⟨r0, r1, r2, r3, f0, f1, f2, f3⟩ := box_four hR
    have hz := hR.lt
    have HFI := Lib.hid (fill_madeX (k := 8) (n := 0) (t := ⟨#[]⟩) (M := mX (e + 1)) (es := [(.mk ka na ta aa), (.mk kb nb tb ab), (.mk kc nc tc ac)]) (us := [.int .i64 ka, .int .i64 na, .string ta, .slice Aa aa.length ca, .int .i64 kb, .int .i64 nb, .string tb, .slice Ab ab.length cb, .int .i64 kc, .int .i64 nc, .string tc, .slice Ac ac.length cc]) (by
      simp only [List.flatMap_cons, List.flatMap_nil, List.append_nil]
      exact (HTa.out.ats HSa.out).append ((HTb.out.ats HSb.out).append ((HTc.out.ats HSc.out)))) (lo_of HH4.out) (by simp) ⟨by omega, by omega, (by decide)⟩ (by rw [costX]; simp only [List.length_cons, List.length_nil, costs_three]; have := HMa.out; have := HMb.out; have := HMc.out; have : (⟨#[]⟩ : ByteArray).size ≤ 100 := (by decide); rw [mX_succ]; omega) HC4.out (fresh_only HH4.out) hlt [.int .i64 8, .int .i64 0, .string ⟨#[]⟩, .slice (some ⟨w4.heap.size, 0, none⟩) 3 3] rfl)
    clear hR
    go_wp2_with fail
    exact bodyPost_ret (v := .agg #[.int .i64 8, .int .i64 0, .string ⟨#[]⟩, .slice (some ⟨w4.heap.size, 0, none⟩) 3 3]) (by simp [results, Try.results195, go_sem, r0, r1, r2, r3, hz, Nat.ne_of_lt hz]) rfl HFI.out
  · go_wp2_with fail
    refine (drawPickN g [⟨#[117]⟩, ⟨#[118]⟩, z0] _ _ (HC1.out.later ((Later.rfl' _).alloc _)) (names_box (xs := [⟨#[117]⟩, ⟨#[118]⟩, z0]) (box_alloc _ _ _) (by have := (lo_of HH1.out); omega) (by simp) (by simp) (fun x hx => by simp only [List.mem_cons, List.not_mem_nil, or_false] at hx; rcases hx with rfl | rfl | rfl; decide; decide; exact HZ0.out))).mono ?_; rintro e w2 ⟨⟨x, hx, rfl⟩, hcu, hch⟩
    have HXx := Lib.hid hx
    clear hx
    have HC2 := Lib.hid hcu; have HH2 := Lib.hid ((HH1.out.trans (((Later.rfl' _).alloc _).chg _)).trans hch)
    clear hcu hch HC1 HH1
    go_wp2_with fail
    refine ((drawListX g xs _ _ HC2.out (HN.out _ HH2.out)).mono fun r w' h => h.step (lo_of HH2.out)).mono ?_; rintro e w3 ⟨⟨ka, na, ta, aa, Aa, ca, rfl, hs, hm, ht⟩, hcu, hch⟩
    have HSa := Lib.hid hs; have HMa := Lib.hid hm; have HTa := Lib.hid ht
    clear hs hm ht
    have HC3 := Lib.hid hcu; have HH3 := Lib.hid (HH2.out.trans hch)
    clear hcu hch HC2 HH2
    have hlo3 := lo_of HH3.out
    have hnm3 := (HN.out _ HH3.out).later ((Later.rfl' w3).alloc (.cells #[.string x, .string x] 9))
    have HOW3 : Hid ((w3.alloc (.cells #[.string x, .string x] 9)).ownsRow (W.heap.size + 1) 9 1 (.slice (some ⟨w3.heap.size, 0, none⟩) 2 2) 2 [.string x, .string x]) := ⟨rfl, .inr ⟨w3.heap.size, 2, #[.string x, .string x], rfl, hlo3, heap_alloc_new w3 _, Nat.le_refl _, by unfold maxLen; omega, rfl, rfl⟩⟩
    obtain ⟨pb2, po2, pc2, heq, hn1, hn2, hn3, hn4, hn5⟩ := hnm3.cell
    have HN5 : Hid (∀ (j : Nat) (u : Value), (xs.map .string)[j]? = some u → (w3.alloc (.cells #[.string x, .string x] 9)).cell? ((⟨pb2, po2, none⟩ : Addr).add j) = some u) := fun j u hu => by
      rw [List.getElem?_map] at hu
      obtain ⟨x, hx, rfl⟩ := Option.map_eq_some_iff.1 hu
      obtain ⟨hj, rfl⟩ := List.getElem?_eq_some_iff.1 hx
      rw [add_lit]
      exact hn5 j hj _ (Chg.rfl' _ _)
    have hxl : xs.length ≤ 100 := hnm3.2.2.1
    have HXS := Lib.hid hnm3.2.2.2
    simp only [Value.slice.injEq, Option.some.injEq, Addr.mk.injEq, and_true, true_and] at heq
    obtain ⟨⟨rfl, rfl⟩, rfl⟩ := heq
    clear hnm3 hn5 hn1 hn2 hn3 hn4
    go_wp2_with (at_builtin; refine wpList_append_own _ rfl _ _ 25 rfl (W.heap.size + 1) 9 s0 (.string ByteArray.empty) 1 16 Try.underlying25 si sz0 sz1 sz2 rfl (by decide) _ _ _ rfl HOW3.out ⟨pb, po, none⟩ xs.length pc (xs.map .string) rfl (by simp) HN5.out (by simp [Value.oneCell']) (by unfold maxLen; omega) (by omega) (by rw [World.size_alloc]; omega) ?_)
    intro v2 w4 hown hgrow _
    have hgc : Chg (fun b => w3.heap.size ≤ b) w3 w4 := (((Later.rfl' w3).alloc (.cells #[.string x, .string x] 9)).chg _).trans ((chg_grown hgrow).more fun b hb => by simp only [Value.ownBlock, Option.some.injEq] at hb; omega)
    have HNN : Hid (NamesAt g w4 (x :: x :: xs) v2) := names_row (lo := W.heap.size + 1) (by rw [show (x :: x :: xs).length = 2 + xs.length by simp only [List.length_cons]; omega]; exact hown) (by omega) (by simp) (by simp only [List.length_cons]; omega) (fun x hx => by
      simp only [List.mem_cons] at hx
      rcases hx with rfl | rfl | hx
      · exact HXx.out
      · exact HXx.out
      · exact HXS.out x hx)
    replace HTa := Lib.hid (HTa.out.chg hgc fun b h1 h2 h3 => by omega)
    have HC4 := Lib.hid (HC3.out.chg hgc fun b hb h => by omega); have HH4 := Lib.hid (chg_new HH3.out hgc)
    clear hown hgrow hgc HC3 HH3 HOW3 HN5 HXS hlo3
    go_wp2_with fail
    refine ((CM.out (x :: x :: xs) _ _ HC4.out HNN.out (by simp only [List.length_cons]; omega)).mono fun r w' h => h.step (lo_of HH4.out)).mono ?_; rintro e w5 ⟨⟨kb, nb, tb, ab, Ab, cb, rfl, hs, hm, ht⟩, hcu, hch⟩
    have HSb := Lib.hid hs; have HMb := Lib.hid hm; have HTb := Lib.hid ht
    clear hs hm ht
    replace HTa := Lib.hid ((HTa.out).chg hch (fun b h1 h2 e => by unfold onlyB at e; omega))
    have HC5 := Lib.hid hcu; have HH5 := Lib.hid (HH4.out.trans hch)
    clear hcu hch HC4 HH4
    have hR := box_onlyX HH5.out hlt
    obtain ⟨r0, r1, r2, r3, f0, f1, f2, f3⟩ := box_four hR
    have hz := hR.lt
    have HFI := Lib.hid (fill_madeX (k := 9) (n := 0) (t := x) (M := mX (e + 1)) (es := [(.mk ka na ta aa), (.mk kb nb tb ab)]) (us := [.int .i64 ka, .int .i64 na, .string ta, .slice Aa aa.length ca, .int .i64 kb, .int .i64 nb, .string tb, .slice Ab ab.length cb]) (by
      simp only [List.flatMap_cons, List.flatMap_nil, List.append_nil]
      exact (HTa.out.ats HSa.out).append ((HTb.out.ats HSb.out))) (lo_of HH5.out) (by simp) ⟨by omega, by omega, (HXx.out)⟩ (by rw [costX]; simp only [List.length_cons, List.length_nil, costs_two]; have := HMa.out; have := HMb.out; have : (x : ByteArray).size ≤ 100 := (HXx.out); rw [mX_succ]; omega) HC5.out (fresh_only HH5.out) hlt [.int .i64 9, .int .i64 0, .string x, .slice (some ⟨w5.heap.size, 0, none⟩) 2 2] rfl)
    clear hR
    go_wp2_with fail
    exact bodyPost_ret (v := .agg #[.int .i64 9, .int .i64 0, .string x, .slice (some ⟨w5.heap.size, 0, none⟩) 2 2]) (by simp [results, Try.results195, go_sem, r0, r1, r2, r3, hz, Nat.ne_of_lt hz]) rfl HFI.out
  · go_wp2_with fail
    refine ((drawListX g xs _ _ HC1.out (HN.out _ HH1.out)).mono fun r w' h => h.step (lo_of HH1.out)).mono ?_; rintro e w2 ⟨⟨ka, na, ta, aa, Aa, ca, rfl, hs, hm, ht⟩, hcu, hch⟩
    have HSa := Lib.hid hs; have HMa := Lib.hid hm; have HTa := Lib.hid ht
    clear hs hm ht
    have HC2 := Lib.hid hcu; have HH2 := Lib.hid (HH1.out.trans hch)
    clear hcu hch HC1 HH1
    have hR := box_onlyX HH2.out hlt
    obtain ⟨r0, r1, r2, r3, f0, f1, f2, f3⟩ := box_four hR
    have hz := hR.lt
    clear hR
    go_wp2_with fail
    exact bodyPost_ret (v := .agg #[.int .i64 ka, .int .i64 na, .string ta, .slice Aa aa.length ca]) (by simp [results, Try.results195, go_sem, r0, r1, r2, r3]) rfl (fill_endX rfl HTa.out HSa.out (by have := HMa.out; rw [mX_succ]; omega) HC2.out (fresh_only HH2.out) hlt [.int .i64 ka, .int .i64 na, .string ta, .slice Aa aa.length ca])
  · go_wp2_with fail
    refine (drawPickN g [⟨#[108, 101, 110]⟩, ⟨#[115, 117, 109]⟩] _ _ (HC1.out.later ((Later.rfl' _).alloc _)) (names_box (xs := [⟨#[108, 101, 110]⟩, ⟨#[115, 117, 109]⟩]) (box_alloc _ _ _) (by have := (lo_of HH1.out); omega) (by simp) (by simp) (by decide))).mono ?_; rintro e w2 ⟨⟨x, hx, rfl⟩, hcu, hch⟩
    have HXx := Lib.hid hx
    clear hx
    have HC2 := Lib.hid hcu; have HH2 := Lib.hid ((HH1.out.trans (((Later.rfl' _).alloc _).chg _)).trans hch)
    clear hcu hch HC1 HH1
    go_wp2_with fail
    refine ((drawListX g xs _ _ HC2.out (HN.out _ HH2.out)).mono fun r w' h => h.step (lo_of HH2.out)).mono ?_; rintro e w3 ⟨⟨ka, na, ta, aa, Aa, ca, rfl, hs, hm, ht⟩, hcu, hch⟩
    have HSa := Lib.hid hs; have HMa := Lib.hid hm; have HTa := Lib.hid ht
    clear hs hm ht
    have HC3 := Lib.hid hcu; have HH3 := Lib.hid (HH2.out.trans hch)
    clear hcu hch HC2 HH2
    go_wp2_with fail
    refine ((CM.out xs _ _ HC3.out (HN.out _ HH3.out) (by omega)).mono fun r w' h => h.step (lo_of HH3.out)).mono ?_; rintro e w4 ⟨⟨kb, nb, tb, ab, Ab, cb, rfl, hs, hm, ht⟩, hcu, hch⟩
    have HSb := Lib.hid hs; have HMb := Lib.hid hm; have HTb := Lib.hid ht
    clear hs hm ht
    replace HTa := Lib.hid ((HTa.out).chg hch (fun b h1 h2 e => by unfold onlyB at e; omega))
    have HC4 := Lib.hid hcu; have HH4 := Lib.hid (HH3.out.trans hch)
    clear hcu hch HC3 HH3
    go_wp2_with fail
    refine (pickX _ _ _ _ _ _ _ _ _ _ _ _ (W.heap.size + 1) (1000 + mX e) g _ (by omega) HC4.out HSa.out HTa.out (by have := HMa.out; omega) HSb.out HTb.out (by have := HMb.out; omega)).mono ?_; rintro e w5 ⟨⟨kp, np, tp, ap, Ap, cp, rfl, hs, hm, ht⟩, hcu, hch⟩
    have HSp := Lib.hid hs; have HMp := Lib.hid hm; have HTp := Lib.hid ht
    clear hs hm ht
    replace HTa := Lib.hid ((HTa.out).chg hch (fun b h1 h2 e => by unfold onlyB at e; omega))
    replace HTb := Lib.hid ((HTb.out).chg hch (fun b h1 h2 e => by unfold onlyB at e; omega))
    have HC5 := Lib.hid hcu; have HH5 := Lib.hid (HH4.out.trans hch)
    clear hcu hch HC4 HH4
    clear HSa HMa HTa HSb HMb HTb
    have HTM := Lib.hid (top_made (lo := W.heap.size + 1) (w := w5) (es := [(.mk kp np tp ap)]) (us := [.int .i64 kp, .int .i64 np, .string tp, .slice Ap ap.length cp]) (by
      simp only [List.flatMap_cons, List.flatMap_nil, List.append_nil]
      exact (HTp.out.ats HSp.out)) (lo_of HH5.out) (by simp))
    go_wp2_with fail
    refine (callX x (HXx.out) [(.mk kp np tp ap)] _ _ (W.heap.size + 1) (101 + (1000 + mX e)) g _ (by simp only [List.length_cons, List.length_nil, costs_one]; have := HMp.out; have : (x : ByteArray).size ≤ 100 := (HXx.out); omega) (HC5.out.later ((Later.rfl' _).alloc _)) HTM.out).mono ?_; rintro e w6 ⟨⟨kr, nr, tr, ar, Ar, cr, rfl, hs, hm, ht⟩, hcu, hch⟩
    have HSr := Lib.hid hs; have HMr := Lib.hid hm; have HTr := Lib.hid ht
    clear hs hm ht
    replace HTp := Lib.hid ((HTp.out.later ((Later.rfl' _).alloc _)).chg hch (fun b h1 h2 e => by unfold onlyB at e; omega))
    have HC6 := Lib.hid hcu; have HH6 := Lib.hid ((HH5.out.trans (((Later.rfl' _).alloc _).chg _)).trans hch)
    clear hcu hch HC5 HH5
    clear HTM
    clear HSp HMp HTp
    have hR := box_onlyX HH6.out hlt
    obtain ⟨r0, r1, r2, r3, f0, f1, f2, f3⟩ := box_four hR
    have hz := hR.lt
    clear hR
    go_wp2_with fail
    exact bodyPost_ret (v := .agg #[.int .i64 kr, .int .i64 nr, .string tr, .slice Ar ar.length cr]) (by simp [results, Try.results195, go_sem, r0, r1, r2, r3]) rfl (fill_endX rfl HTr.out HSr.out (by have := HMr.out; rw [mX_succ]; omega) HC6.out (fresh_only HH6.out) hlt [.int .i64 kr, .int .i64 nr, .string tr, .slice Ar ar.length cr])
  · go_wp2_with fail
    refine (drawPickN g [⟨#[116, 97, 107, 101]⟩, ⟨#[115, 107, 105, 112]⟩, ⟨#[110, 116, 104]⟩, ⟨#[116, 97, 107, 101]⟩] _ _ (HC1.out.later ((Later.rfl' _).alloc _)) (names_box (xs := [⟨#[116, 97, 107, 101]⟩, ⟨#[115, 107, 105, 112]⟩, ⟨#[110, 116, 104]⟩, ⟨#[116, 97, 107, 101]⟩]) (box_alloc _ _ _) (by have := (lo_of HH1.out); omega) (by simp) (by simp) (by decide))).mono ?_; rintro e w2 ⟨⟨x, hx, rfl⟩, hcu, hch⟩
    have HXx := Lib.hid hx
    clear hx
    have HC2 := Lib.hid hcu; have HH2 := Lib.hid ((HH1.out.trans (((Later.rfl' _).alloc _).chg _)).trans hch)
    clear hcu hch HC1 HH1
    go_wp2_with fail
    refine (drawBelow 4 g (by omega) (by omega) _ HC2.out).mono ?_; rintro e w3 ⟨⟨y, hy, rfl⟩, hcu, hch⟩
    have HC3 := Lib.hid hcu; have HH3 := Lib.hid (HH2.out.trans hch)
    clear hcu hch HC2 HH2
    go_wp2_with fail
    refine (numX ((y : Int)) (by omega) (W.heap.size + 1) g _ HC3.out).mono ?_; rintro e w4 ⟨⟨ka, na, ta, aa, Aa, ca, rfl, hs, hm, ht⟩, hcu, hch⟩
    have HSa := Lib.hid hs; have HMa := Lib.hid hm; have HTa := Lib.hid ht
    clear hs hm ht
    have HC4 := Lib.hid hcu; have HH4 := Lib.hid (HH3.out.trans hch)
    clear hcu hch HC3 HH3
    go_wp2_with fail
    refine ((drawListX g xs _ _ HC4.out (HN.out _ HH4.out)).mono fun r w' h => h.step (lo_of HH4.out)).mono ?_; rintro e w5 ⟨⟨kb, nb, tb, ab, Ab, cb, rfl, hs, hm, ht⟩, hcu, hch⟩
    have HSb := Lib.hid hs; have HMb := Lib.hid hm; have HTb := Lib.hid ht
    clear hs hm ht
    replace HTa := Lib.hid ((HTa.out).chg hch (fun b h1 h2 e => by unfold onlyB at e; omega))
    have HC5 := Lib.hid hcu; have HH5 := Lib.hid (HH4.out.trans hch)
    clear hcu hch HC4 HH4
    go_wp2_with fail
    refine (drawBelow 9 g (by omega) (by omega) _ HC5.out).mono ?_; rintro e w6 ⟨⟨z, hz, rfl⟩, hcu, hch⟩
    replace HTa := Lib.hid ((HTa.out).chg hch (fun b h1 h2 e => by unfold onlyB at e; omega))
    replace HTb := Lib.hid ((HTb.out).chg hch (fun b h1 h2 e => by unfold onlyB at e; omega))
    have HC6 := Lib.hid hcu; have HH6 := Lib.hid (HH5.out.trans hch)
    clear hcu hch HC5 HH5
    go_wp2_with fail
    refine (numX ((z : Int)) (by omega) (W.heap.size + 1) g _ HC6.out).mono ?_; rintro e w7 ⟨⟨kc, nc, tc, ac, Ac, cc, rfl, hs, hm, ht⟩, hcu, hch⟩
    have HSc := Lib.hid hs; have HMc := Lib.hid hm; have HTc := Lib.hid ht
    clear hs hm ht
    replace HTa := Lib.hid ((HTa.out).chg hch (fun b h1 h2 e => by unfold onlyB at e; omega))
    replace HTb := Lib.hid ((HTb.out).chg hch (fun b h1 h2 e => by unfold onlyB at e; omega))
    have HC7 := Lib.hid hcu; have HH7 := Lib.hid (HH6.out.trans hch)
    clear hcu hch HC6 HH6
    go_wp2_with fail
    refine (drawBelow 4 g (by omega) (by omega) _ HC7.out).mono ?_; rintro e w8 ⟨⟨t, ht, rfl⟩, hcu, hch⟩
    replace HTa := Lib.hid ((HTa.out).chg hch (fun b h1 h2 e => by unfold onlyB at e; omega))
    replace HTb := Lib.hid ((HTb.out).chg hch (fun b h1 h2 e => by unfold onlyB at e; omega))
    replace HTc := Lib.hid ((HTc.out).chg hch (fun b h1 h2 e => by unfold onlyB at e; omega))
    have HC8 := Lib.hid hcu; have HH8 := Lib.hid (HH7.out.trans hch)
    clear hcu hch HC7 HH7
    go_wp2_with fail
    refine (numX ((t : Int)) (by omega) (W.heap.size + 1) g _ HC8.out).mono ?_; rintro e w9 ⟨⟨kd, nd, td, ad, Ad, cd, rfl, hs, hm, ht⟩, hcu, hch⟩
    have HSd := Lib.hid hs; have HMd := Lib.hid hm; have HTd := Lib.hid ht
    clear hs hm ht
    replace HTa := Lib.hid ((HTa.out).chg hch (fun b h1 h2 e => by unfold onlyB at e; omega))
    replace HTb := Lib.hid ((HTb.out).chg hch (fun b h1 h2 e => by unfold onlyB at e; omega))
    replace HTc := Lib.hid ((HTc.out).chg hch (fun b h1 h2 e => by unfold onlyB at e; omega))
    have HC9 := Lib.hid hcu; have HH9 := Lib.hid (HH8.out.trans hch)
    clear hcu hch HC8 HH8
    have HTM := Lib.hid (top_made (lo := W.heap.size + 1) (w := w9) (es := [(.mk kc nc tc ac), (.mk kd nd td ad)]) (us := [.int .i64 kc, .int .i64 nc, .string tc, .slice Ac ac.length cc, .int .i64 kd, .int .i64 nd, .string td, .slice Ad ad.length cd]) (by
      simp only [List.flatMap_cons, List.flatMap_nil, List.append_nil]
      exact (HTc.out.ats HSc.out).append ((HTd.out.ats HSd.out))) (lo_of HH9.out) (by simp))
    go_wp2_with fail
    refine (callX ⟨#[114, 97, 110, 103, 101]⟩ (by decide) [(.mk kc nc tc ac), (.mk kd nd td ad)] _ _ (W.heap.size + 1) (102) g _ (by simp only [List.length_cons, List.length_nil, costs_two]; have := HMc.out; have := HMd.out; have : (⟨#[114, 97, 110, 103, 101]⟩ : ByteArray).size ≤ 100 := (by decide); omega) (HC9.out.later ((Later.rfl' _).alloc _)) HTM.out).mono ?_; rintro e w10 ⟨⟨kf, nf, tf, af, Af, cf, rfl, hs, hm, ht⟩, hcu, hch⟩
    have HSf := Lib.hid hs; have HMf := Lib.hid hm; have HTf := Lib.hid ht
    clear hs hm ht
    replace HTa := Lib.hid ((HTa.out.later ((Later.rfl' _).alloc _)).chg hch (fun b h1 h2 e => by unfold onlyB at e; omega))
    replace HTb := Lib.hid ((HTb.out.later ((Later.rfl' _).alloc _)).chg hch (fun b h1 h2 e => by unfold onlyB at e; omega))
    replace HTc := Lib.hid ((HTc.out.later ((Later.rfl' _).alloc _)).chg hch (fun b h1 h2 e => by unfold onlyB at e; omega))
    replace HTd := Lib.hid ((HTd.out.later ((Later.rfl' _).alloc _)).chg hch (fun b h1 h2 e => by unfold onlyB at e; omega))
    have HC10 := Lib.hid hcu; have HH10 := Lib.hid ((HH9.out.trans (((Later.rfl' _).alloc _).chg _)).trans hch)
    clear hcu hch HC9 HH9
    clear HTM
    clear HSc HMc HTc HSd HMd HTd
    go_wp2_with fail
    refine (pickX _ _ _ _ _ _ _ _ _ _ _ _ (W.heap.size + 1) (1000) g _ (by omega) HC10.out HSb.out HTb.out (by have := HMb.out; omega) HSf.out HTf.out (by have := HMf.out; omega)).mono ?_; rintro e w11 ⟨⟨kp, np, tp, ap, Ap, cp, rfl, hs, hm, ht⟩, hcu, hch⟩
    have HSp := Lib.hid hs; have HMp := Lib.hid hm; have HTp := Lib.hid ht
    clear hs hm ht
    replace HTa := Lib.hid ((HTa.out).chg hch (fun b h1 h2 e => by unfold onlyB at e; omega))
    replace HTb := Lib.hid ((HTb.out).chg hch (fun b h1 h2 e => by unfold onlyB at e; omega))
    replace HTf := Lib.hid ((HTf.out).chg hch (fun b h1 h2 e => by unfold onlyB at e; omega))
    have HC11 := Lib.hid hcu; have HH11 := Lib.hid (HH10.out.trans hch)
    clear hcu hch HC10 HH10
    clear HSb HMb HTb HSf HMf HTf
    have HTM := Lib.hid (top_made (lo := W.heap.size + 1) (w := w11) (es := [(.mk ka na ta aa), (.mk kp np tp ap)]) (us := [.int .i64 ka, .int .i64 na, .string ta, .slice Aa aa.length ca, .int .i64 kp, .int .i64 np, .string tp, .slice Ap ap.length cp]) (by
      simp only [List.flatMap_cons, List.flatMap_nil, List.append_nil]
      exact (HTa.out.ats HSa.out).append ((HTp.out.ats HSp.out))) (lo_of HH11.out) (by simp))
    go_wp2_with fail
    refine (callX x (HXx.out) [(.mk ka na ta aa), (.mk kp np tp ap)] _ _ (W.heap.size + 1) (1102) g _ (by simp only [List.length_cons, List.length_nil, costs_two]; have := HMa.out; have := HMp.out; have : (x : ByteArray).size ≤ 100 := (HXx.out); omega) (HC11.out.later ((Later.rfl' _).alloc _)) HTM.out).mono ?_; rintro e w12 ⟨⟨kr, nr, tr, ar, Ar, cr, rfl, hs, hm, ht⟩, hcu, hch⟩
    have HSr := Lib.hid hs; have HMr := Lib.hid hm; have HTr := Lib.hid ht
    clear hs hm ht
    replace HTa := Lib.hid ((HTa.out.later ((Later.rfl' _).alloc _)).chg hch (fun b h1 h2 e => by unfold onlyB at e; omega))
    replace HTp := Lib.hid ((HTp.out.later ((Later.rfl' _).alloc _)).chg hch (fun b h1 h2 e => by unfold onlyB at e; omega))
    have HC12 := Lib.hid hcu; have HH12 := Lib.hid ((HH11.out.trans (((Later.rfl' _).alloc _).chg _)).trans hch)
    clear hcu hch HC11 HH11
    clear HTM
    clear HSa HMa HTa HSp HMp HTp
    have hR := box_onlyX HH12.out hlt
    obtain ⟨r0, r1, r2, r3, f0, f1, f2, f3⟩ := box_four hR
    have hz := hR.lt
    clear hR
    go_wp2_with fail
    exact bodyPost_ret (v := .agg #[.int .i64 kr, .int .i64 nr, .string tr, .slice Ar ar.length cr]) (by simp [results, Try.results195, go_sem, r0, r1, r2, r3]) rfl (fill_endX rfl HTr.out HSr.out (by have := HMr.out; rw [mX_succ]; omega) HC12.out (fresh_only HH12.out) hlt [.int .i64 kr, .int .i64 nr, .string tr, .slice Ar ar.length cr])
  · go_wp2_with fail
    refine ((drawColumn g _ HC1.out).mono fun r w' h => h.step (lo_of HH1.out)).mono ?_; rintro e w2 ⟨⟨ka, na, ta, aa, Aa, ca, rfl, hs, hm, ht⟩, hcu, hch⟩
    have HSa := Lib.hid hs; have HMa := Lib.hid hm; have HTa := Lib.hid ht
    clear hs hm ht
    have HC2 := Lib.hid hcu; have HH2 := Lib.hid (HH1.out.trans hch)
    clear hcu hch HC1 HH1
    go_wp2_with fail
    refine (drawBelow 3 g (by omega) (by omega) _ HC2.out).mono ?_; rintro e w3 ⟨⟨y, hy, rfl⟩, hcu, hch⟩
    replace HTa := Lib.hid ((HTa.out).chg hch (fun b h1 h2 e => by unfold onlyB at e; omega))
    have HC3 := Lib.hid hcu; have HH3 := Lib.hid (HH2.out.trans hch)
    clear hcu hch HC2 HH2
    go_wp2_with fail
    refine (numX ((y : Int)) (by omega) (W.heap.size + 1) g _ HC3.out).mono ?_; rintro e w4 ⟨⟨kb, nb, tb, ab, Ab, cb, rfl, hs, hm, ht⟩, hcu, hch⟩
    have HSb := Lib.hid hs; have HMb := Lib.hid hm; have HTb := Lib.hid ht
    clear hs hm ht
    replace HTa := Lib.hid ((HTa.out).chg hch (fun b h1 h2 e => by unfold onlyB at e; omega))
    have HC4 := Lib.hid hcu; have HH4 := Lib.hid (HH3.out.trans hch)
    clear hcu hch HC3 HH3
    go_wp2_with fail
    refine ((drawTableX g _ HC4.out).mono fun r w' h => h.step (lo_of HH4.out)).mono ?_; rintro e w5 ⟨⟨kc, nc, tc, ac, Ac, cc, rfl, hs, hm, ht⟩, hcu, hch⟩
    have HSc := Lib.hid hs; have HMc := Lib.hid hm; have HTc := Lib.hid ht
    clear hs hm ht
    replace HTa := Lib.hid ((HTa.out).chg hch (fun b h1 h2 e => by unfold onlyB at e; omega))
    replace HTb := Lib.hid ((HTb.out).chg hch (fun b h1 h2 e => by unfold onlyB at e; omega))
    have HC5 := Lib.hid hcu; have HH5 := Lib.hid (HH4.out.trans hch)
    clear hcu hch HC4 HH4
    go_wp2_with fail
    refine ((CM.out xs _ _ HC5.out (HN.out _ HH5.out) (by omega)).mono fun r w' h => h.step (lo_of HH5.out)).mono ?_; rintro e w6 ⟨⟨kd, nd, td, ad, Ad, cd, rfl, hs, hm, ht⟩, hcu, hch⟩
    have HSd := Lib.hid hs; have HMd := Lib.hid hm; have HTd := Lib.hid ht
    clear hs hm ht
    replace HTa := Lib.hid ((HTa.out).chg hch (fun b h1 h2 e => by unfold onlyB at e; omega))
    replace HTb := Lib.hid ((HTb.out).chg hch (fun b h1 h2 e => by unfold onlyB at e; omega))
    replace HTc := Lib.hid ((HTc.out).chg hch (fun b h1 h2 e => by unfold onlyB at e; omega))
    have HC6 := Lib.hid hcu; have HH6 := Lib.hid (HH5.out.trans hch)
    clear hcu hch HC5 HH5
    go_wp2_with fail
    refine (pickX _ _ _ _ _ _ _ _ _ _ _ _ (W.heap.size + 1) (1000 + mX e) g _ (by omega) HC6.out HSc.out HTc.out (by have := HMc.out; omega) HSd.out HTd.out (by have := HMd.out; omega)).mono ?_; rintro e w7 ⟨⟨kp, np, tp, ap, Ap, cp, rfl, hs, hm, ht⟩, hcu, hch⟩
    have HSp := Lib.hid hs; have HMp := Lib.hid hm; have HTp := Lib.hid ht
    clear hs hm ht
    replace HTa := Lib.hid ((HTa.out).chg hch (fun b h1 h2 e => by unfold onlyB at e; omega))
    replace HTb := Lib.hid ((HTb.out).chg hch (fun b h1 h2 e => by unfold onlyB at e; omega))
    replace HTc := Lib.hid ((HTc.out).chg hch (fun b h1 h2 e => by unfold onlyB at e; omega))
    replace HTd := Lib.hid ((HTd.out).chg hch (fun b h1 h2 e => by unfold onlyB at e; omega))
    have HC7 := Lib.hid hcu; have HH7 := Lib.hid (HH6.out.trans hch)
    clear hcu hch HC6 HH6
    clear HSc HMc HTc HSd HMd HTd
    have HTM := Lib.hid (top_made (lo := W.heap.size + 1) (w := w7) (es := [(.mk ka na ta aa), (.mk kb nb tb ab), (.mk kp np tp ap)]) (us := [.int .i64 ka, .int .i64 na, .string ta, .slice Aa aa.length ca, .int .i64 kb, .int .i64 nb, .string tb, .slice Ab ab.length cb, .int .i64 kp, .int .i64 np, .string tp, .slice Ap ap.length cp]) (by
      simp only [List.flatMap_cons, List.flatMap_nil, List.append_nil]
      exact (HTa.out.ats HSa.out).append ((HTb.out.ats HSb.out).append ((HTp.out.ats HSp.out)))) (lo_of HH7.out) (by simp))
    go_wp2_with fail
    refine (callX ⟨#[119, 104, 101, 114, 101]⟩ (by decide) [(.mk ka na ta aa), (.mk kb nb tb ab), (.mk kp np tp ap)] _ _ (W.heap.size + 1) (203 + (1000 + mX e)) g _ (by simp only [List.length_cons, List.length_nil, costs_three]; have := HMa.out; have := HMb.out; have := HMp.out; have : (⟨#[119, 104, 101, 114, 101]⟩ : ByteArray).size ≤ 100 := (by decide); omega) (HC7.out.later ((Later.rfl' _).alloc _)) HTM.out).mono ?_; rintro e w8 ⟨⟨kr, nr, tr, ar, Ar, cr, rfl, hs, hm, ht⟩, hcu, hch⟩
    have HSr := Lib.hid hs; have HMr := Lib.hid hm; have HTr := Lib.hid ht
    clear hs hm ht
    replace HTa := Lib.hid ((HTa.out.later ((Later.rfl' _).alloc _)).chg hch (fun b h1 h2 e => by unfold onlyB at e; omega))
    replace HTb := Lib.hid ((HTb.out.later ((Later.rfl' _).alloc _)).chg hch (fun b h1 h2 e => by unfold onlyB at e; omega))
    replace HTp := Lib.hid ((HTp.out.later ((Later.rfl' _).alloc _)).chg hch (fun b h1 h2 e => by unfold onlyB at e; omega))
    have HC8 := Lib.hid hcu; have HH8 := Lib.hid ((HH7.out.trans (((Later.rfl' _).alloc _).chg _)).trans hch)
    clear hcu hch HC7 HH7
    clear HTM
    clear HSa HMa HTa HSb HMb HTb HSp HMp HTp
    have hR := box_onlyX HH8.out hlt
    obtain ⟨r0, r1, r2, r3, f0, f1, f2, f3⟩ := box_four hR
    have hz := hR.lt
    clear hR
    go_wp2_with fail
    exact bodyPost_ret (v := .agg #[.int .i64 kr, .int .i64 nr, .string tr, .slice Ar ar.length cr]) (by simp [results, Try.results195, go_sem, r0, r1, r2, r3]) rfl (fill_endX rfl HTr.out HSr.out (by have := HMr.out; rw [mX_succ]; omega) HC8.out (fresh_only HH8.out) hlt [.int .i64 kr, .int .i64 nr, .string tr, .slice Ar ar.length cr])
  · go_wp2_with fail
    refine ((drawColumn g _ HC1.out).mono fun r w' h => h.step (lo_of HH1.out)).mono ?_; rintro e w2 ⟨⟨ka, na, ta, aa, Aa, ca, rfl, hs, hm, ht⟩, hcu, hch⟩
    have HSa := Lib.hid hs; have HMa := Lib.hid hm; have HTa := Lib.hid ht
    clear hs hm ht
    have HC2 := Lib.hid hcu; have HH2 := Lib.hid (HH1.out.trans hch)
    clear hcu hch HC1 HH1
    go_wp2_with fail
    refine ((drawColumn g _ HC2.out).mono fun r w' h => h.step (lo_of HH2.out)).mono ?_; rintro e w3 ⟨⟨kb, nb, tb, ab, Ab, cb, rfl, hs, hm, ht⟩, hcu, hch⟩
    have HSb := Lib.hid hs; have HMb := Lib.hid hm; have HTb := Lib.hid ht
    clear hs hm ht
    replace HTa := Lib.hid ((HTa.out).chg hch (fun b h1 h2 e => by unfold onlyB at e; omega))
    have HC3 := Lib.hid hcu; have HH3 := Lib.hid (HH2.out.trans hch)
    clear hcu hch HC2 HH2
    go_wp2_with fail
    refine ((drawTableX g _ HC3.out).mono fun r w' h => h.step (lo_of HH3.out)).mono ?_; rintro e w4 ⟨⟨kc, nc, tc, ac, Ac, cc, rfl, hs, hm, ht⟩, hcu, hch⟩
    have HSc := Lib.hid hs; have HMc := Lib.hid hm; have HTc := Lib.hid ht
    clear hs hm ht
    replace HTa := Lib.hid ((HTa.out).chg hch (fun b h1 h2 e => by unfold onlyB at e; omega))
    replace HTb := Lib.hid ((HTb.out).chg hch (fun b h1 h2 e => by unfold onlyB at e; omega))
    have HC4 := Lib.hid hcu; have HH4 := Lib.hid (HH3.out.trans hch)
    clear hcu hch HC3 HH3
    go_wp2_with fail
    refine ((CM.out xs _ _ HC4.out (HN.out _ HH4.out) (by omega)).mono fun r w' h => h.step (lo_of HH4.out)).mono ?_; rintro e w5 ⟨⟨kd, nd, td, ad, Ad, cd, rfl, hs, hm, ht⟩, hcu, hch⟩
    have HSd := Lib.hid hs; have HMd := Lib.hid hm; have HTd := Lib.hid ht
    clear hs hm ht
    replace HTa := Lib.hid ((HTa.out).chg hch (fun b h1 h2 e => by unfold onlyB at e; omega))
    replace HTb := Lib.hid ((HTb.out).chg hch (fun b h1 h2 e => by unfold onlyB at e; omega))
    replace HTc := Lib.hid ((HTc.out).chg hch (fun b h1 h2 e => by unfold onlyB at e; omega))
    have HC5 := Lib.hid hcu; have HH5 := Lib.hid (HH4.out.trans hch)
    clear hcu hch HC4 HH4
    go_wp2_with fail
    refine (pickX _ _ _ _ _ _ _ _ _ _ _ _ (W.heap.size + 1) (1000 + mX e) g _ (by omega) HC5.out HSc.out HTc.out (by have := HMc.out; omega) HSd.out HTd.out (by have := HMd.out; omega)).mono ?_; rintro e w6 ⟨⟨kp, np, tp, ap, Ap, cp, rfl, hs, hm, ht⟩, hcu, hch⟩
    have HSp := Lib.hid hs; have HMp := Lib.hid hm; have HTp := Lib.hid ht
    clear hs hm ht
    replace HTa := Lib.hid ((HTa.out).chg hch (fun b h1 h2 e => by unfold onlyB at e; omega))
    replace HTb := Lib.hid ((HTb.out).chg hch (fun b h1 h2 e => by unfold onlyB at e; omega))
    replace HTc := Lib.hid ((HTc.out).chg hch (fun b h1 h2 e => by unfold onlyB at e; omega))
    replace HTd := Lib.hid ((HTd.out).chg hch (fun b h1 h2 e => by unfold onlyB at e; omega))
    have HC6 := Lib.hid hcu; have HH6 := Lib.hid (HH5.out.trans hch)
    clear hcu hch HC5 HH5
    clear HSc HMc HTc HSd HMd HTd
    have HTM := Lib.hid (top_made (lo := W.heap.size + 1) (w := w6) (es := [(.mk ka na ta aa), (.mk kb nb tb ab), (.mk kp np tp ap)]) (us := [.int .i64 ka, .int .i64 na, .string ta, .slice Aa aa.length ca, .int .i64 kb, .int .i64 nb, .string tb, .slice Ab ab.length cb, .int .i64 kp, .int .i64 np, .string tp, .slice Ap ap.length cp]) (by
      simp only [List.flatMap_cons, List.flatMap_nil, List.append_nil]
      exact (HTa.out.ats HSa.out).append ((HTb.out.ats HSb.out).append ((HTp.out.ats HSp.out)))) (lo_of HH6.out) (by simp))
    go_wp2_with fail
    refine (callX ⟨#[103, 114, 111, 117, 112]⟩ (by decide) [(.mk ka na ta aa), (.mk kb nb tb ab), (.mk kp np tp ap)] _ _ (W.heap.size + 1) (303 + (1000 + mX e)) g _ (by simp only [List.length_cons, List.length_nil, costs_three]; have := HMa.out; have := HMb.out; have := HMp.out; have : (⟨#[103, 114, 111, 117, 112]⟩ : ByteArray).size ≤ 100 := (by decide); omega) (HC6.out.later ((Later.rfl' _).alloc _)) HTM.out).mono ?_; rintro e w7 ⟨⟨kr, nr, tr, ar, Ar, cr, rfl, hs, hm, ht⟩, hcu, hch⟩
    have HSr := Lib.hid hs; have HMr := Lib.hid hm; have HTr := Lib.hid ht
    clear hs hm ht
    replace HTa := Lib.hid ((HTa.out.later ((Later.rfl' _).alloc _)).chg hch (fun b h1 h2 e => by unfold onlyB at e; omega))
    replace HTb := Lib.hid ((HTb.out.later ((Later.rfl' _).alloc _)).chg hch (fun b h1 h2 e => by unfold onlyB at e; omega))
    replace HTp := Lib.hid ((HTp.out.later ((Later.rfl' _).alloc _)).chg hch (fun b h1 h2 e => by unfold onlyB at e; omega))
    have HC7 := Lib.hid hcu; have HH7 := Lib.hid ((HH6.out.trans (((Later.rfl' _).alloc _).chg _)).trans hch)
    clear hcu hch HC6 HH6
    clear HTM
    clear HSa HMa HTa HSb HMb HTb HSp HMp HTp
    have hR := box_onlyX HH7.out hlt
    obtain ⟨r0, r1, r2, r3, f0, f1, f2, f3⟩ := box_four hR
    have hz := hR.lt
    clear hR
    go_wp2_with fail
    exact bodyPost_ret (v := .agg #[.int .i64 kr, .int .i64 nr, .string tr, .slice Ar ar.length cr]) (by simp [results, Try.results195, go_sem, r0, r1, r2, r3]) rfl (fill_endX rfl HTr.out HSr.out (by have := HMr.out; rw [mX_succ]; omega) HC7.out (fresh_only HH7.out) hlt [.int .i64 kr, .int .i64 nr, .string tr, .slice Ar ar.length cr])
  · go_wp2_with fail
    refine ((drawTableX g _ HC1.out).mono fun r w' h => h.step (lo_of HH1.out)).mono ?_; rintro e w2 ⟨⟨kc, nc, tc, ac, Ac, cc, rfl, hs, hm, ht⟩, hcu, hch⟩
    have HSc := Lib.hid hs; have HMc := Lib.hid hm; have HTc := Lib.hid ht
    clear hs hm ht
    have HC2 := Lib.hid hcu; have HH2 := Lib.hid (HH1.out.trans hch)
    clear hcu hch HC1 HH1
    go_wp2_with fail
    refine ((CM.out xs _ _ HC2.out (HN.out _ HH2.out) (by omega)).mono fun r w' h => h.step (lo_of HH2.out)).mono ?_; rintro e w3 ⟨⟨kd, nd, td, ad, Ad, cd, rfl, hs, hm, ht⟩, hcu, hch⟩
    have HSd := Lib.hid hs; have HMd := Lib.hid hm; have HTd := Lib.hid ht
    clear hs hm ht
    replace HTc := Lib.hid ((HTc.out).chg hch (fun b h1 h2 e => by unfold onlyB at e; omega))
    have HC3 := Lib.hid hcu; have HH3 := Lib.hid (HH2.out.trans hch)
    clear hcu hch HC2 HH2
    go_wp2_with fail
    refine (pickX _ _ _ _ _ _ _ _ _ _ _ _ (W.heap.size + 1) (1000 + mX e) g _ (by omega) HC3.out HSc.out HTc.out (by have := HMc.out; omega) HSd.out HTd.out (by have := HMd.out; omega)).mono ?_; rintro e w4 ⟨⟨kp, np, tp, ap, Ap, cp, rfl, hs, hm, ht⟩, hcu, hch⟩
    have HSp := Lib.hid hs; have HMp := Lib.hid hm; have HTp := Lib.hid ht
    clear hs hm ht
    replace HTc := Lib.hid ((HTc.out).chg hch (fun b h1 h2 e => by unfold onlyB at e; omega))
    replace HTd := Lib.hid ((HTd.out).chg hch (fun b h1 h2 e => by unfold onlyB at e; omega))
    have HC4 := Lib.hid hcu; have HH4 := Lib.hid (HH3.out.trans hch)
    clear hcu hch HC3 HH3
    clear HSc HMc HTc HSd HMd HTd
    have HTM := Lib.hid (top_made (lo := W.heap.size + 1) (w := w4) (es := [(.mk kp np tp ap)]) (us := [.int .i64 kp, .int .i64 np, .string tp, .slice Ap ap.length cp]) (by
      simp only [List.flatMap_cons, List.flatMap_nil, List.append_nil]
      exact (HTp.out.ats HSp.out)) (lo_of HH4.out) (by simp))
    go_wp2_with fail
    refine (callX ⟨#[114, 111, 119, 115]⟩ (by decide) [(.mk kp np tp ap)] _ _ (W.heap.size + 1) (101 + (1000 + mX e)) g _ (by simp only [List.length_cons, List.length_nil, costs_one]; have := HMp.out; have : (⟨#[114, 111, 119, 115]⟩ : ByteArray).size ≤ 100 := (by decide); omega) (HC4.out.later ((Later.rfl' _).alloc _)) HTM.out).mono ?_; rintro e w5 ⟨⟨kr, nr, tr, ar, Ar, cr, rfl, hs, hm, ht⟩, hcu, hch⟩
    have HSr := Lib.hid hs; have HMr := Lib.hid hm; have HTr := Lib.hid ht
    clear hs hm ht
    replace HTp := Lib.hid ((HTp.out.later ((Later.rfl' _).alloc _)).chg hch (fun b h1 h2 e => by unfold onlyB at e; omega))
    have HC5 := Lib.hid hcu; have HH5 := Lib.hid ((HH4.out.trans (((Later.rfl' _).alloc _).chg _)).trans hch)
    clear hcu hch HC4 HH4
    clear HTM
    clear HSp HMp HTp
    have hR := box_onlyX HH5.out hlt
    obtain ⟨r0, r1, r2, r3, f0, f1, f2, f3⟩ := box_four hR
    have hz := hR.lt
    clear hR
    go_wp2_with fail
    exact bodyPost_ret (v := .agg #[.int .i64 kr, .int .i64 nr, .string tr, .slice Ar ar.length cr]) (by simp [results, Try.results195, go_sem, r0, r1, r2, r3]) rfl (fill_endX rfl HTr.out HSr.out (by have := HMr.out; rw [mX_succ]; omega) HC5.out (fresh_only HH5.out) hlt [.int .i64 kr, .int .i64 nr, .string tr, .slice Ar ar.length cr])
  · go_wp2_with fail
    refine (drawBelow 6 g (by omega) (by omega) _ HC1.out).mono ?_; rintro e w2 ⟨⟨y, hy, rfl⟩, hcu, hch⟩
    have HC2 := Lib.hid hcu; have HH2 := Lib.hid (HH1.out.trans hch)
    clear hcu hch HC1 HH1
    go_wp2_with fail
    refine (numX (1 + (y : Int)) (by omega) (W.heap.size + 1) g _ HC2.out).mono ?_; rintro e w3 ⟨⟨ka, na, ta, aa, Aa, ca, rfl, hs, hm, ht⟩, hcu, hch⟩
    have HSa := Lib.hid hs; have HMa := Lib.hid hm; have HTa := Lib.hid ht
    clear hs hm ht
    have HC3 := Lib.hid hcu; have HH3 := Lib.hid (HH2.out.trans hch)
    clear hcu hch HC2 HH2
    have HTM := Lib.hid (top_made (lo := W.heap.size + 1) (w := w3) (es := [(.mk ka na ta aa)]) (us := [.int .i64 ka, .int .i64 na, .string ta, .slice Aa aa.length ca]) (by
      simp only [List.flatMap_cons, List.flatMap_nil, List.append_nil]
      exact (HTa.out.ats HSa.out)) (lo_of HH3.out) (by simp))
    go_wp2_with fail
    refine (callX ⟨#[99, 104, 97, 110, 99, 101]⟩ (by decide) [(.mk ka na ta aa)] _ _ (W.heap.size + 1) (101) g _ (by simp only [List.length_cons, List.length_nil, costs_one]; have := HMa.out; have : (⟨#[99, 104, 97, 110, 99, 101]⟩ : ByteArray).size ≤ 100 := (by decide); omega) (HC3.out.later ((Later.rfl' _).alloc _)) HTM.out).mono ?_; rintro e w4 ⟨⟨kr, nr, tr, ar, Ar, cr, rfl, hs, hm, ht⟩, hcu, hch⟩
    have HSr := Lib.hid hs; have HMr := Lib.hid hm; have HTr := Lib.hid ht
    clear hs hm ht
    replace HTa := Lib.hid ((HTa.out.later ((Later.rfl' _).alloc _)).chg hch (fun b h1 h2 e => by unfold onlyB at e; omega))
    have HC4 := Lib.hid hcu; have HH4 := Lib.hid ((HH3.out.trans (((Later.rfl' _).alloc _).chg _)).trans hch)
    clear hcu hch HC3 HH3
    clear HTM
    clear HSa HMa HTa
    have hR := box_onlyX HH4.out hlt
    obtain ⟨r0, r1, r2, r3, f0, f1, f2, f3⟩ := box_four hR
    have hz := hR.lt
    clear hR
    go_wp2_with fail
    exact bodyPost_ret (v := .agg #[.int .i64 kr, .int .i64 nr, .string tr, .slice Ar ar.length cr]) (by simp [results, Try.results195, go_sem, r0, r1, r2, r3]) rfl (fill_endX rfl HTr.out HSr.out (by have := HMr.out; rw [mX_succ]; omega) HC4.out (fresh_only HH4.out) hlt [.int .i64 kr, .int .i64 nr, .string tr, .slice Ar ar.length cr])
  · go_wp2_with fail
    refine (callX ⟨#[99, 108, 111, 99, 107]⟩ (by decide) [] none 0 (W.heap.size + 1) 100 g _ (by decide) HC1.out (TopE.nil _ _)).mono ?_; rintro e w2 ⟨⟨ka, na, ta, aa, Aa, ca, rfl, hs, hm, ht⟩, hcu, hch⟩
    have HSa := Lib.hid hs; have HMa := Lib.hid hm; have HTa := Lib.hid ht
    clear hs hm ht
    have HC2 := Lib.hid hcu; have HH2 := Lib.hid (HH1.out.trans hch)
    clear hcu hch HC1 HH1
    go_wp2_with fail
    refine (drawPickN g [⟨#[102]⟩, ⟨#[103]⟩, ⟨#[104]⟩] _ _ (HC2.out.later ((Later.rfl' _).alloc _)) (names_box (xs := [⟨#[102]⟩, ⟨#[103]⟩, ⟨#[104]⟩]) (box_alloc _ _ _) (by have := (lo_of HH2.out); omega) (by simp) (by simp) (by decide))).mono ?_; rintro e w3 ⟨⟨x, hx, rfl⟩, hcu, hch⟩
    have HXx := Lib.hid hx
    clear hx
    replace HTa := Lib.hid ((HTa.out.later ((Later.rfl' _).alloc _)).chg hch (fun b h1 h2 e => by unfold onlyB at e; omega))
    have HC3 := Lib.hid hcu; have HH3 := Lib.hid ((HH2.out.trans (((Later.rfl' _).alloc _).chg _)).trans hch)
    clear hcu hch HC2 HH2
    have HSb : Hid (SmallE 2 0 x) := ⟨by omega, by omega, HXx.out⟩; have HMb : Hid ((Ex.mk 2 0 x []).cost ≤ 100) := by unfold Hid; rw [costX]; simpa [Ex.costs] using HXx.out
    have HTb := Lib.hid (TopE.nil (W.heap.size + 1) w3)
    have HTM := Lib.hid (top_made (lo := W.heap.size + 1) (w := w3) (es := [(.mk 2 0 x [])]) (us := [.int .i64 2, .int .i64 0, .string x, .slice none 0 0]) (by
      simp only [List.flatMap_cons, List.flatMap_nil, List.append_nil]
      exact HTb.out.ats HSb.out) (lo_of HH3.out) (by simp))
    go_wp2_with fail
    refine (callX ⟨#[102, 105, 108, 101]⟩ (by decide) [(.mk 2 0 x [])] _ _ (W.heap.size + 1) (201) g _ (by simp only [List.length_cons, List.length_nil, costs_one]; have := HMb.out; have : (⟨#[102, 105, 108, 101]⟩ : ByteArray).size ≤ 100 := (by decide); omega) (HC3.out.later ((Later.rfl' _).alloc _)) HTM.out).mono ?_; rintro e w4 ⟨⟨kf, nf, tf, af, Af, cf, rfl, hs, hm, ht⟩, hcu, hch⟩
    have HSf := Lib.hid hs; have HMf := Lib.hid hm; have HTf := Lib.hid ht
    clear hs hm ht
    replace HTa := Lib.hid ((HTa.out.later ((Later.rfl' _).alloc _)).chg hch (fun b h1 h2 e => by unfold onlyB at e; omega))
    replace HTb := Lib.hid ((HTb.out.later ((Later.rfl' _).alloc _)).chg hch (fun b h1 h2 e => by unfold onlyB at e; omega))
    have HC4 := Lib.hid hcu; have HH4 := Lib.hid ((HH3.out.trans (((Later.rfl' _).alloc _).chg _)).trans hch)
    clear hcu hch HC3 HH3
    clear HTM
    clear HSb HMb HTb
    go_wp2_with fail
    refine (pickX _ _ _ _ _ _ _ _ _ _ _ _ (W.heap.size + 1) (201) g _ (by omega) HC4.out HSa.out HTa.out (by have := HMa.out; omega) HSf.out HTf.out (by have := HMf.out; omega)).mono ?_; rintro e w5 ⟨⟨kr, nr, tr, ar, Ar, cr, rfl, hs, hm, ht⟩, hcu, hch⟩
    have HSr := Lib.hid hs; have HMr := Lib.hid hm; have HTr := Lib.hid ht
    clear hs hm ht
    replace HTa := Lib.hid ((HTa.out).chg hch (fun b h1 h2 e => by unfold onlyB at e; omega))
    replace HTf := Lib.hid ((HTf.out).chg hch (fun b h1 h2 e => by unfold onlyB at e; omega))
    have HC5 := Lib.hid hcu; have HH5 := Lib.hid (HH4.out.trans hch)
    clear hcu hch HC4 HH4
    clear HSa HMa HTa HSf HMf HTf
    have hR := box_onlyX HH5.out hlt
    obtain ⟨r0, r1, r2, r3, f0, f1, f2, f3⟩ := box_four hR
    have hz := hR.lt
    clear hR
    go_wp2_with fail
    exact bodyPost_ret (v := .agg #[.int .i64 kr, .int .i64 nr, .string tr, .slice Ar ar.length cr]) (by simp [results, Try.results195, go_sem, r0, r1, r2, r3]) rfl (fill_endX rfl HTr.out HSr.out (by have := HMr.out; rw [mX_succ]; omega) HC5.out (fresh_only HH5.out) hlt [.int .i64 kr, .int .i64 nr, .string tr, .slice Ar ar.length cr])

end Go.Proofs.Ytghemlokpfipoaa
