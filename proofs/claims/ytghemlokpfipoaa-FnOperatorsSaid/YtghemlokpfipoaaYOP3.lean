/-
  DrawApplyOperator: the walk.
-/
import Derived.Test.YtghemlokpfipoaaYOP2
import Derived.Test.YtghemlokpfipoaaYMG5
namespace Go.Proofs.Ytghemlokpfipoaa
open Go.ChangeShapes Go.WideShapes Go.ChangeAt Go.RowKit
set_option linter.unusedVariables false
set_option linter.unusedSimpArgs false
set_option maxRecDepth 100000

/-- An operator and two values, drawn. -/
def OpOut (M : Nat) (w' : World) (r : Ending) : Prop := ∃ op : Nat, ∃ d d' z0 z1 z2 z3 A1 z4 z7 A2 z5 z8 A3 z6 z9 y0 y1 y2 y3 B1 y4 y7 B2 y5 y8 B3 y6 y9, op < 7 ∧
  r = .returned (.tuple #[.int .i64 (op : Int), .agg #[.int .i64 z0, .int .i64 z1, .int .i64 z2, .string z3, .slice A1 z4 z7, .slice A2 z5 z8, .slice A3 z6 z9], .agg #[.int .i64 y0, .int .i64 y1, .int .i64 y2, .string y3, .slice B1 y4 y7, .slice B2 y5 y8, .slice B3 y6 y9]]) ∧
  Ats w' anyB (encV d) [.int .i64 z0, .int .i64 z1, .int .i64 z2, .string z3, .slice A1 z4 z7, .slice A2 z5 z8, .slice A3 z6 z9] ∧
  Ats w' anyB (encV d') [.int .i64 y0, .int .i64 y1, .int .i64 y2, .string y3, .slice B1 y4 y7, .slice B2 y5 y8, .slice B3 y6 y9] ∧ d.cost ≤ M ∧ d'.cost ≤ M
/-- A number drawn, wherever the results were stored. -/
def CallN (n g R : Nat) (w3 W' w4 : World) (r : Ending) : Prop := ∃ x : Nat, x < n ∧ r = .returned (.int .i64 (x : Int)) ∧ CurAt w4 g ∧ Chg (fun b => b = g ∨ (b = R ∨ b = R + 1)) w3 w4 ∧ ∀ b, b ≠ g → b < w3.heap.size → w4.heap[b]? = W'.heap[b]?
theorem callN {n g R : Nat} (hn : 0 < n) (hn2 : n ≤ 256) {w3 : World} (hbg : ∀ W', Chg (fun b => b = R ∨ b = R + 1) w3 W' → CurAt W' g) (W' : World) (c : Chg (fun b => b = R ∨ b = R + 1) w3 W') : Calls Try.prog 87 #[.pointer (some ⟨g, 0, none⟩), .int .i64 (n : Int)] W' fun r w' => CallN n g R w3 W' w' r := by
  refine (drawBelow n g hn hn2 W' (hbg W' c)).mono ?_
  rintro r w4 ⟨⟨x, hx, rfl⟩, hcu4, hch⟩
  have hsz := c.size
  exact ⟨x, hx, rfl, hcu4, (c.more fun k hk => .inr hk).trans (hch.more fun k hk => .inl hk), fun b h1 h2 => hch.block b (by omega) fun h => h1 h⟩
theorem Box.drew {w : World} {g : Nat} {xs : List Value} (h : Box w g xs) : Box w.drew g xs := box_blk h rfl
theorem box_far {w : World} {H : Nat} {xs : List Value} (h : Box w H xs) {g : Nat} (hg : H ≠ g) (a0 a1 a2 a3 a4 a5 a6 : Value) :
    Box (((((((w.setCell ⟨g, 0, none⟩ a0).setCell ⟨g, 1, none⟩ a1).setCell ⟨g, 2, none⟩ a2).setCell ⟨g, 3, none⟩ a3).setCell ⟨g, 4, none⟩ a4).setCell ⟨g, 5, none⟩ a5).setCell ⟨g, 6, none⟩ a6) H xs := by
  have hb := block_setFrom (g := g) (b := H) hg [a0, a1, a2, a3, a4, a5, a6] w 0
  rw [chain7] at hb
  exact box_blk h hb

set_option maxHeartbeats 20000000 in
theorem drawApplyOperator (v : Value) (n : Nat) (W : World) (h : BytesAt W v n) (hn : n ≤ 1048576) : Calls Try.prog 27 #[v] W fun r w' => OpOut 121000 w' r ∧ Later W w' := by
  have HN := Lib.hid (drawNew v n ((W.alloc (.cells #[.int .i64 0, .int .i64 0, .int .i64 0, .string ⟨#[]⟩, .slice none 0 0, .slice none 0 0, .slice none 0 0] 28)).alloc (.cells #[.int .i64 0, .int .i64 0, .int .i64 0, .string ⟨#[]⟩, .slice none 0 0, .slice none 0 0, .slice none 0 0] 28)) (h.later (((Later.rfl' _).alloc _).alloc _)) hn)
  clear h hn
  go_enter Try.func27, Try.ntmps27
  go_wp2_with fail
  refine HN.out.mono ?_; rintro e w1 ⟨⟨g, rfl, hg, hc⟩, hb1⟩
  have HC := Lib.hid hc; have HB := Lib.hid hb1; have HG := Lib.hid hg
  clear hc hb1 hg HN
  go_wp2_with fail
  refine (drawPair5 g _ HC.out).mono ?_; rintro e w3 ⟨⟨d, d', z0, z1, z2, z3, A1, z4, z7, A2, z5, z8, A3, z6, z9, y0, y1, y2, y3, B1, y4, y7, B2, y5, y8, B3, y6, y9, rfl, hz, hy, hM, hM'⟩, hcu, hch⟩
  have hgs := HG.out
  have hzb := HB.out.size
  have hzc := hch.size
  rw [World.size_alloc, World.size_alloc] at hgs hzb
  have hgl := HC.out.lt
  have hlX : Later w3 ((w3.alloc (.cells #[.int .i64 z0, .int .i64 z1, .int .i64 z2, .string z3, .slice A1 z4 z7, .slice A2 z5 z8, .slice A3 z6 z9] 28)).alloc (.cells #[.int .i64 y0, .int .i64 y1, .int .i64 y2, .string y3, .slice B1 y4 y7, .slice B2 y5 y8, .slice B3 y6 y9] 28)) := ((Later.rfl' _).alloc _).alloc _
  have hR : Box ((w3.alloc (.cells #[.int .i64 z0, .int .i64 z1, .int .i64 z2, .string z3, .slice A1 z4 z7, .slice A2 z5 z8, .slice A3 z6 z9] 28)).alloc (.cells #[.int .i64 y0, .int .i64 y1, .int .i64 y2, .string y3, .slice B1 y4 y7, .slice B2 y5 y8, .slice B3 y6 y9] 28)) W.heap.size [.int .i64 0, .int .i64 0, .int .i64 0, .string ⟨#[]⟩, .slice none 0 0, .slice none 0 0, .slice none 0 0] := ((((box_alloc W #[.int .i64 0, .int .i64 0, .int .i64 0, .string ⟨#[]⟩, .slice none 0 0, .slice none 0 0, .slice none 0 0] 28).later ((Later.rfl' _).alloc _)).later HB.out).chg hch fun h => by unfold onlyB at h; omega).later hlX
  have hQ : Box ((w3.alloc (.cells #[.int .i64 z0, .int .i64 z1, .int .i64 z2, .string z3, .slice A1 z4 z7, .slice A2 z5 z8, .slice A3 z6 z9] 28)).alloc (.cells #[.int .i64 y0, .int .i64 y1, .int .i64 y2, .string y3, .slice B1 y4 y7, .slice B2 y5 y8, .slice B3 y6 y9] 28)) (W.heap.size + 1) [.int .i64 0, .int .i64 0, .int .i64 0, .string ⟨#[]⟩, .slice none 0 0, .slice none 0 0, .slice none 0 0] := by
    have h := ((box_alloc (W.alloc (.cells #[.int .i64 0, .int .i64 0, .int .i64 0, .string ⟨#[]⟩, .slice none 0 0, .slice none 0 0, .slice none 0 0] 28)) #[.int .i64 0, .int .i64 0, .int .i64 0, .string ⟨#[]⟩, .slice none 0 0, .slice none 0 0, .slice none 0 0] 28).later HB.out).chg hch fun h => by unfold onlyB at h; rw [World.size_alloc] at h; omega
    rw [World.size_alloc] at h
    exact h.later hlX
  have h6 : Box ((w3.alloc (.cells #[.int .i64 z0, .int .i64 z1, .int .i64 z2, .string z3, .slice A1 z4 z7, .slice A2 z5 z8, .slice A3 z6 z9] 28)).alloc (.cells #[.int .i64 y0, .int .i64 y1, .int .i64 y2, .string y3, .slice B1 y4 y7, .slice B2 y5 y8, .slice B3 y6 y9] 28)) w3.heap.size [.int .i64 z0, .int .i64 z1, .int .i64 z2, .string z3, .slice A1 z4 z7, .slice A2 z5 z8, .slice A3 z6 z9] := (box_alloc w3 #[.int .i64 z0, .int .i64 z1, .int .i64 z2, .string z3, .slice A1 z4 z7, .slice A2 z5 z8, .slice A3 z6 z9] 28).later ((Later.rfl' _).alloc _)
  have h7 : Box ((w3.alloc (.cells #[.int .i64 z0, .int .i64 z1, .int .i64 z2, .string z3, .slice A1 z4 z7, .slice A2 z5 z8, .slice A3 z6 z9] 28)).alloc (.cells #[.int .i64 y0, .int .i64 y1, .int .i64 y2, .string y3, .slice B1 y4 y7, .slice B2 y5 y8, .slice B3 y6 y9] 28)) (w3.heap.size + 1) [.int .i64 y0, .int .i64 y1, .int .i64 y2, .string y3, .slice B1 y4 y7, .slice B2 y5 y8, .slice B3 y6 y9] := by
    have h := box_alloc (w3.alloc (.cells #[.int .i64 z0, .int .i64 z1, .int .i64 z2, .string z3, .slice A1 z4 z7, .slice A2 z5 z8, .slice A3 z6 z9] 28)) #[.int .i64 y0, .int .i64 y1, .int .i64 y2, .string y3, .slice B1 y4 y7, .slice B2 y5 y8, .slice B3 y6 y9] 28
    rw [World.size_alloc] at h
    exact h
  have HR := Lib.hid hR; have HQ := Lib.hid hQ; have H6 := Lib.hid h6; have H7 := Lib.hid h7
  have HV1 := Lib.hid (Held7.of h6); have HV2 := Lib.hid (Held7.of h7)
  have hcX : CurAt ((w3.alloc (.cells #[.int .i64 z0, .int .i64 z1, .int .i64 z2, .string z3, .slice A1 z4 z7, .slice A2 z5 z8, .slice A3 z6 z9] 28)).alloc (.cells #[.int .i64 y0, .int .i64 y1, .int .i64 y2, .string y3, .slice B1 y4 y7, .slice B2 y5 y8, .slice B3 y6 y9] 28)) g := hcu.later hlX
  have hXs : ((w3.alloc (.cells #[.int .i64 z0, .int .i64 z1, .int .i64 z2, .string z3, .slice A1 z4 z7, .slice A2 z5 z8, .slice A3 z6 z9] 28)).alloc (.cells #[.int .i64 y0, .int .i64 y1, .int .i64 y2, .string y3, .slice B1 y4 y7, .slice B2 y5 y8, .slice B3 y6 y9] 28)).heap.size = w3.heap.size + 2 := by simp
  have HK := Lib.hid (callN (n := 7) (g := g) (R := W.heap.size) (by omega) (by omega) (w3 := ((w3.alloc (.cells #[.int .i64 z0, .int .i64 z1, .int .i64 z2, .string z3, .slice A1 z4 z7, .slice A2 z5 z8, .slice A3 z6 z9] 28)).alloc (.cells #[.int .i64 y0, .int .i64 y1, .int .i64 y2, .string y3, .slice B1 y4 y7, .slice B2 y5 y8, .slice B3 y6 y9] 28))) (fun W' c => hcX.boxes (P := fun b => b = W.heap.size ∨ b = W.heap.size + 1) (fun b hb => by
    rcases hb with rfl | rfl
    · exact ⟨by omega, _, hR, noByte_seven⟩
    · exact ⟨by omega, _, hQ, noByte_seven⟩) c))
  have HZ := Lib.hid (hz.later hlX); have HY := Lib.hid (hy.later hlX)
  have HM := Lib.hid hM; have HM2 := Lib.hid hM'
  have HL := Lib.hid ((Chg.later ((((Later.rfl' W).alloc _).alloc _).trans HB.out) hch (fun k hk => by unfold onlyB at hk; omega)).trans hlX)
  clear hR hQ h6 h7 hz hy hM hM' hcu hch hcX HC HB HG hlX
  obtain ⟨X, hX⟩ : ∃ X, X = ((w3.alloc (.cells #[.int .i64 z0, .int .i64 z1, .int .i64 z2, .string z3, .slice A1 z4 z7, .slice A2 z5 z8, .slice A3 z6 z9] 28)).alloc (.cells #[.int .i64 y0, .int .i64 y1, .int .i64 y2, .string y3, .slice B1 y4 y7, .slice B2 y5 y8, .slice B3 y6 y9] 28)) := ⟨_, rfl⟩
  rw [← hX] at HR HQ H6 H7 HV1 HV2 HK HZ HY HL hXs
  have hV1 := HV1.out; have hV2 := HV2.out
  have hXl : w3.heap.size + 1 < X.heap.size := by omega
  have HXX := Lib.hid hX
  clear hXs hX
  go_wp2_with fail
  rw [← HXX.out]
  clear HXX
  go_region_held3 (fun w' => (w'.cell? ⟨w3.heap.size, 0, none⟩ = some (.int .i64 z0) ∧ w'.cell? ⟨w3.heap.size, 1, none⟩ = some (.int .i64 z1) ∧ w'.cell? ⟨w3.heap.size, 2, none⟩ = some (.int .i64 z2) ∧ w'.cell? ⟨w3.heap.size, 3, none⟩ = some (.string z3) ∧ w'.cell? ⟨w3.heap.size, 4, none⟩ = some (.slice A1 z4 z7) ∧ w'.cell? ⟨w3.heap.size, 5, none⟩ = some (.slice A2 z5 z8) ∧ w'.cell? ⟨w3.heap.size, 6, none⟩ = some (.slice A3 z6 z9)) ∧ (w'.cell? ⟨w3.heap.size + 1, 0, none⟩ = some (.int .i64 y0) ∧ w'.cell? ⟨w3.heap.size + 1, 1, none⟩ = some (.int .i64 y1) ∧ w'.cell? ⟨w3.heap.size + 1, 2, none⟩ = some (.int .i64 y2) ∧ w'.cell? ⟨w3.heap.size + 1, 3, none⟩ = some (.string y3) ∧ w'.cell? ⟨w3.heap.size + 1, 4, none⟩ = some (.slice B1 y4 y7) ∧ w'.cell? ⟨w3.heap.size + 1, 5, none⟩ = some (.slice B2 y5 y8) ∧ w'.cell? ⟨w3.heap.size + 1, 6, none⟩ = some (.slice B3 y6 y9)))
    (refine ⟨?_, ?_⟩ <;> repeat (first | with_reducible exact HV1.out | with_reducible exact HV2.out | with_reducible exact hV41 | with_reducible exact hV42 | with_reducible refine Held7.drew ?_ | with_reducible refine Held7.set ?_ (by omega) _ _ _ _ _ _ _))
    (first | (go_at_call 87; refine (HK.out _ (by repeat (first | with_reducible exact Chg.rfl' _ _ | with_reducible refine chg_drew ?_ | with_reducible refine chg_chain ?_ (.inl rfl) _ _ _ _ _ _ _ | with_reducible refine chg_chain ?_ (.inr rfl) _ _ _ _ _ _ _))).mono ?_; rintro r w4 ⟨x, hx, rfl, hcu4, hch4, hkp⟩; have hV41 := Held7.block HV1.out (hch4.block _ (by omega) (fun h => by omega)); have hV42 := Held7.block HV2.out (hch4.block _ (by omega) (fun h => by omega)); have hR4 : Box w4 W.heap.size [.int .i64 0, .int .i64 0, .int .i64 0, .string ⟨#[]⟩, .slice none 0 0, .slice none 0 0, .slice none 0 0] := box_blk (by repeat (first | with_reducible exact HR.out | with_reducible refine Box.drew ?_ | with_reducible refine box_chain ?_ _ _ _ _ _ _ _ | with_reducible refine box_far ?_ (by omega) _ _ _ _ _ _ _)) (hkp _ (by omega) (by omega)); obtain ⟨r0, r1, r2, r3, r4, r5, r6, f0, f1, f2, f3, f4, f5, f6⟩ := box_seven hR4; have hQ4 : Box w4 (W.heap.size + 1) [.int .i64 0, .int .i64 0, .int .i64 0, .string ⟨#[]⟩, .slice none 0 0, .slice none 0 0, .slice none 0 0] := box_blk (by repeat (first | with_reducible exact HQ.out | with_reducible refine Box.drew ?_ | with_reducible refine box_chain ?_ _ _ _ _ _ _ _ | with_reducible refine box_far ?_ (by omega) _ _ _ _ _ _ _)) (hkp _ (by omega) (by omega)); obtain ⟨q0, q1, q2, q3, q4, q5, q6, e0, e1, e2, e3, e4, e5, e6⟩ := box_seven hQ4))
  all_goals
    (rename_i hHL; clear hHL
     have HX := Lib.hid hx
     have c := put_two w4 W.heap.size [.int .i64 z0, .int .i64 z1, .int .i64 z2, .string z3, .slice A1 z4 z7, .slice A2 z5 z8, .slice A3 z6 z9] [.int .i64 y0, .int .i64 y1, .int .i64 y2, .string y3, .slice B1 y4 y7, .slice B2 y5 y8, .slice B3 y6 y9]
     have HZ4 := Lib.hid (((HZ.out.chg hch4 fun b h1 h2 => by omega).chg c fun b h1 h2 => by omega).any)
     have HY4 := Lib.hid (((HY.out.chg hch4 fun b h1 h2 => by omega).chg c fun b h1 h2 => by omega).any)
     have HL4 := Lib.hid (Chg.later (Chg.later HL.out hch4 (fun k hk => by omega)) c (fun k hk => by omega))
     have hqz := hQ4.lt
     have hrz := hR4.lt
     clear hx c hch4 hcu4 hkp hV41 hV42 hR4 hQ4 hV1 hV2 HZ HY HL HK HV1 HV2 H6 H7 HR HQ
     go_wp2_with fail
     exact bodyPost_ret (v := .tuple #[.int .i64 (x : Int), .agg #[.int .i64 z0, .int .i64 z1, .int .i64 z2, .string z3, .slice A1 z4 z7, .slice A2 z5 z8, .slice A3 z6 z9], .agg #[.int .i64 y0, .int .i64 y1, .int .i64 y2, .string y3, .slice B1 y4 y7, .slice B2 y5 y8, .slice B3 y6 y9]]) (by simp [results, Try.results27, go_sem, r0, r1, r2, r3, r4, r5, r6, q0, q1, q2, q3, q4, q5, q6]) rfl ⟨⟨x, d, d', _, _, _, _, _, _, _, _, _, _, _, _, _, _, _, _, _, _, _, _, _, _, _, _, _, _, HX.out, rfl, HZ4.out, HY4.out, HM.out, HM2.out⟩, HL4.out⟩)

end Go.Proofs.Ytghemlokpfipoaa
