/-
  DrawSkipOf: the walk.
-/
import Derived.Test.YtghemlokpfipoaaYVD5
import Derived.Test.YtghemlokpfipoaaYPV
namespace Go.Proofs.Ytghemlokpfipoaa
open Go.ChangeShapes Go.WideShapes Go.ChangeAt Go.RowKit
set_option linter.unusedVariables false
set_option linter.unusedSimpArgs false
set_option maxRecDepth 100000

/-- Two drawn values, as they lie. -/
def TwoOut (M : Nat) (w' : World) (r : Ending) : Prop := ∃ d d' z0 z1 z2 z3 A1 z4 z7 A2 z5 z8 A3 z6 z9 y0 y1 y2 y3 B1 y4 y7 B2 y5 y8 B3 y6 y9,
  r = .returned (.tuple #[.agg #[.int .i64 z0, .int .i64 z1, .int .i64 z2, .string z3, .slice A1 z4 z7, .slice A2 z5 z8, .slice A3 z6 z9], .agg #[.int .i64 y0, .int .i64 y1, .int .i64 y2, .string y3, .slice B1 y4 y7, .slice B2 y5 y8, .slice B3 y6 y9]]) ∧
  Ats w' anyB (encV d) [.int .i64 z0, .int .i64 z1, .int .i64 z2, .string z3, .slice A1 z4 z7, .slice A2 z5 z8, .slice A3 z6 z9] ∧
  Ats w' anyB (encV d') [.int .i64 y0, .int .i64 y1, .int .i64 y2, .string y3, .slice B1 y4 y7, .slice B2 y5 y8, .slice B3 y6 y9] ∧ d.cost ≤ M ∧ d'.cost ≤ M

set_option maxHeartbeats 4000000 in
theorem drawSkipOf (v : Value) (n : Nat) (W : World) (h : BytesAt W v n) (hn : n ≤ 1048576) : Calls Try.prog 22 #[v] W fun r w' => TwoOut 121000 w' r ∧ Later W w' := by
  have HN := Lib.hid (drawNew v n ((W.alloc (.cells #[.int .i64 0, .int .i64 0, .int .i64 0, .string ⟨#[]⟩, .slice none 0 0, .slice none 0 0, .slice none 0 0] 28)).alloc (.cells #[.int .i64 0, .int .i64 0, .int .i64 0, .string ⟨#[]⟩, .slice none 0 0, .slice none 0 0, .slice none 0 0] 28)) (h.later (((Later.rfl' _).alloc _).alloc _)) hn)
  clear h hn
  go_enter Try.func22, Try.ntmps22
  go_wp2_with fail
  refine HN.out.mono ?_; rintro e w1 ⟨⟨g, rfl, hg, hc⟩, hb1⟩
  have HC := Lib.hid hc; have HB := Lib.hid hb1; have HG := Lib.hid hg
  clear hc hb1 hg HN
  go_wp2_with fail
  refine (drawCount g _ HC.out).mono ?_; rintro e w2 ⟨⟨d, ⟨z0, z1, z2, z3, A1, z4, z7, A2, z5, z8, A3, z6, z9, rfl, hz⟩, hM⟩, hcu1, hch1⟩
  have HZ0 := Lib.hid hz; have HM := Lib.hid hM; have HC1 := Lib.hid hcu1; have HH1 := Lib.hid hch1
  clear hz hM hcu1 hch1
  go_wp2_with fail
  refine (drawSix g _ HC1.out).mono ?_; rintro e w3 ⟨⟨d', ⟨y0, y1, y2, y3, B1, y4, y7, B2, y5, y8, B3, y6, y9, rfl, hy⟩, hM'⟩, hcu, hch2⟩
  have hgs := HG.out
  have hzb := HB.out.size
  have hz12 := HH1.out.size
  rw [World.size_alloc, World.size_alloc] at hgs hzb
  have hgl := HC.out.lt
  have hch := HH1.out.trans hch2
  have hR : Box w3 W.heap.size [.int .i64 0, .int .i64 0, .int .i64 0, .string ⟨#[]⟩, .slice none 0 0, .slice none 0 0, .slice none 0 0] := (((box_alloc W #[.int .i64 0, .int .i64 0, .int .i64 0, .string ⟨#[]⟩, .slice none 0 0, .slice none 0 0, .slice none 0 0] 28).later ((Later.rfl' _).alloc _)).later HB.out).chg hch fun h => by unfold onlyB at h; omega
  have hQ : Box w3 (W.heap.size + 1) [.int .i64 0, .int .i64 0, .int .i64 0, .string ⟨#[]⟩, .slice none 0 0, .slice none 0 0, .slice none 0 0] := by
    have h := ((box_alloc (W.alloc (.cells #[.int .i64 0, .int .i64 0, .int .i64 0, .string ⟨#[]⟩, .slice none 0 0, .slice none 0 0, .slice none 0 0] 28)) #[.int .i64 0, .int .i64 0, .int .i64 0, .string ⟨#[]⟩, .slice none 0 0, .slice none 0 0, .slice none 0 0] 28).later HB.out).chg hch fun h => by unfold onlyB at h; rw [World.size_alloc] at h; omega
    rw [World.size_alloc] at h
    exact h
  obtain ⟨r0, r1, r2, r3, r4, r5, r6, f0, f1, f2, f3, f4, f5, f6⟩ := box_seven hR
  obtain ⟨q0, q1, q2, q3, q4, q5, q6, e0, e1, e2, e3, e4, e5, e6⟩ := box_seven hQ
  have hrz := hR.lt
  have hqz := hQ.lt
  have c := put_two w3 W.heap.size [.int .i64 z0, .int .i64 z1, .int .i64 z2, .string z3, .slice A1 z4 z7, .slice A2 z5 z8, .slice A3 z6 z9] [.int .i64 y0, .int .i64 y1, .int .i64 y2, .string y3, .slice B1 y4 y7, .slice B2 y5 y8, .slice B3 y6 y9]
  have HZ := Lib.hid (((HZ0.out.chg hch2 fun b h1 h2 => by unfold onlyB at h2; omega).chg c fun b h1 h2 => by omega).ats.any); have HY := Lib.hid ((hy.chg c fun b h1 h2 => by omega).ats.any)
  have HM2 := Lib.hid hM'
  have HL := Lib.hid (Chg.later ((((Later.rfl' W).alloc _).alloc _).trans HB.out) hch (fun k hk => by unfold onlyB at hk; omega))
  have HL2 := Lib.hid (Chg.later HL.out c fun k hk => by omega)
  clear hR hQ hy hM' c hcu hch hch2 HC HB HG hgs hzb HL HZ0 HC1 HH1 hz12
  go_wp2_with fail
  exact bodyPost_ret (v := .tuple #[.agg #[.int .i64 z0, .int .i64 z1, .int .i64 z2, .string z3, .slice A1 z4 z7, .slice A2 z5 z8, .slice A3 z6 z9], .agg #[.int .i64 y0, .int .i64 y1, .int .i64 y2, .string y3, .slice B1 y4 y7, .slice B2 y5 y8, .slice B3 y6 y9]]) (by simp [results, Try.results22, go_sem, r0, r1, r2, r3, r4, r5, r6, q0, q1, q2, q3, q4, q5, q6]) rfl ⟨⟨d, d', _, _, _, _, _, _, _, _, _, _, _, _, _, _, _, _, _, _, _, _, _, _, _, _, _, _, rfl, HZ.out, HY.out, HM.out, HM2.out⟩, HL2.out⟩

end Go.Proofs.Ytghemlokpfipoaa
