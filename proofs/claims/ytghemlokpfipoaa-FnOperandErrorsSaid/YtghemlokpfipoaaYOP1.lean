/-
  ApplyOperator where an operand is an error or does not hold: the walks.
-/
import Derived.Test.YtghemlokpfipoaaYOE
namespace Go.Proofs.Ytghemlokpfipoaa
open Go.ChangeShapes Go.WideShapes Go.ChangeAt Go.RowKit
set_option linter.unusedVariables false
set_option linter.unusedSimpArgs false
set_option maxRecDepth 100000

set_option maxHeartbeats 8000000 in
theorem specApplyErr (op : Int) (d d' : Vl) (hcost : d.cost ≤ 1099511627776) (hcost' : d'.cost ≤ 1099511627776) (m : Int) (hm : firstE [d, d'] = some m) (W : World) (S S' : Nat → Prop) (cs cs' : List Value) (h : Ats W S (encV d) cs) (h' : Ats W S' (encV d') cs') :
    Calls Try.prog 29 #[.int .i64 op, .agg cs.toArray, .agg cs'.toArray] W fun r w' => LeafOut W (leafD 6 m 0 ⟨#[]⟩) r ∧ Later W w' := by
  have C := fun w g (hB : Box w g (cs ++ cs')) (hl : Later W w) => specErr2 d d' hcost hcost' W S S' cs cs' h h' w g hB hl
  obtain ⟨z0, z1, z2, z3, A1, z4, z7, A2, z5, z8, A3, z6, z9, rfl⟩ := ats_seven h
  obtain ⟨y0, y1, y2, y3, B1, y4, y7, B2, y5, y8, B3, y6, y9, rfl⟩ := ats_seven h'
  rw [hm] at C
  have HC := Lib.hid C
  have BX := box_alloc (((W.alloc (.cells #[.int .i64 z0, .int .i64 z1, .int .i64 z2, .string z3, .slice A1 z4 z7, .slice A2 z5 z8, .slice A3 z6 z9] 28)).alloc (.cells #[.int .i64 y0, .int .i64 y1, .int .i64 y2, .string y3, .slice B1 y4 y7, .slice B2 y5 y8, .slice B3 y6 y9] 28)).alloc (.cells #[.int .i64 0, .int .i64 0, .int .i64 0, .string ⟨#[]⟩, .slice none 0 0, .slice none 0 0, .slice none 0 0] 28)) #[.int .i64 z0, .int .i64 z1, .int .i64 z2, .string z3, .slice A1 z4 z7, .slice A2 z5 z8, .slice A3 z6 z9, .int .i64 y0, .int .i64 y1, .int .i64 y2, .string y3, .slice B1 y4 y7, .slice B2 y5 y8, .slice B3 y6 y9] 28
  rw [World.size_alloc, World.size_alloc, World.size_alloc] at BX
  have R := (box_alloc ((W.alloc (.cells #[.int .i64 z0, .int .i64 z1, .int .i64 z2, .string z3, .slice A1 z4 z7, .slice A2 z5 z8, .slice A3 z6 z9] 28)).alloc (.cells #[.int .i64 y0, .int .i64 y1, .int .i64 y2, .string y3, .slice B1 y4 y7, .slice B2 y5 y8, .slice B3 y6 y9] 28)) #[.int .i64 0, .int .i64 0, .int .i64 0, .string ⟨#[]⟩, .slice none 0 0, .slice none 0 0, .slice none 0 0] 28).later ((Later.rfl' _).alloc (.cells #[.int .i64 z0, .int .i64 z1, .int .i64 z2, .string z3, .slice A1 z4 z7, .slice A2 z5 z8, .slice A3 z6 z9, .int .i64 y0, .int .i64 y1, .int .i64 y2, .string y3, .slice B1 y4 y7, .slice B2 y5 y8, .slice B3 y6 y9] 28))
  rw [World.size_alloc, World.size_alloc] at R
  have HBX := Lib.hid BX; have HR := Lib.hid R
  clear C BX R h h' hm hcost hcost'
  go_enter Try.func29, Try.ntmps29
  go_wp2_with fail
  refine (HC.out _ _ HBX.out (((((Later.rfl' _).alloc _).alloc _).alloc _).alloc _)).mono ?_; rintro e w1 ⟨⟨x0, x1, x2, x3, E1, x4, x7, E2, x5, x8, E3, x6, x9, rfl, hEr⟩, hb1⟩
  have R := (HR.out.later hb1).later ((Later.rfl' _).alloc (.cells #[.int .i64 x0, .int .i64 x1, .int .i64 x2, .string x3, .slice E1 x4 x7, .slice E2 x5 x8, .slice E3 x6 x9] 28))
  have HL := Lib.hid (((((((Later.rfl' W).alloc _).alloc _).alloc _).alloc _).trans hb1).alloc (.cells #[.int .i64 x0, .int .i64 x1, .int .i64 x2, .string x3, .slice E1 x4 x7, .slice E2 x5 x8, .slice E3 x6 x9] 28))
  have HEr := Lib.hid (hEr m rfl)
  clear hb1 HBX HC HR hEr
  have r0 := R.cell (j := 0) rfl
  have f0 := R.free 0
  have r1 := R.cell (j := 1) rfl
  have f1 := R.free 1
  have r2 := R.cell (j := 2) rfl
  have f2 := R.free 2
  have r3 := R.cell (j := 3) rfl
  have f3 := R.free 3
  have r4 := R.cell (j := 4) rfl
  have f4 := R.free 4
  have r5 := R.cell (j := 5) rfl
  have f5 := R.free 5
  have r6 := R.cell (j := 6) rfl
  have f6 := R.free 6
  have rz := R.lt
  clear R
  go_wp2_with fail
  exact bodyPost_ret (v := .agg #[.int .i64 x0, .int .i64 x1, .int .i64 x2, .string x3, .slice E1 x4 x7, .slice E2 x5 x8, .slice E3 x6 x9]) (by simp [results, Try.results29, go_sem, r0, r1, r2, r3, r4, r5, r6]) rfl ⟨⟨_, _, _, _, _, _, _, _, _, _, _, _, _, rfl, HEr.out.2⟩, later_setFrom (by omega) [.int .i64 x0, .int .i64 x1, .int .i64 x2, .string x3, .slice E1 x4 x7, .slice E2 x5 x8, .slice E3 x6 x9] _ 0 HL.out⟩


set_option maxHeartbeats 8000000 in
theorem implApplyErr (op : Int) (d d' : Vl) (hcost : d.cost ≤ 1099511627776) (hcost' : d'.cost ≤ 1099511627776) (m : Int) (hm : firstE [d, d'] = some m) (W : World) (S S' : Nat → Prop) (cs cs' : List Value) (h : Ats W S (encV d) cs) (h' : Ats W S' (encV d') cs') :
    Calls Try.prog 28 #[.int .i64 op, .agg cs.toArray, .agg cs'.toArray] W fun r w' => LeafOut W (leafD 6 m 0 ⟨#[]⟩) r ∧ Later W w' := by
  have C := fun w g (hB : Box w g (cs ++ cs')) (hl : Later W w) => implErr2 d d' hcost hcost' W S S' cs cs' h h' w g hB hl
  obtain ⟨z0, z1, z2, z3, A1, z4, z7, A2, z5, z8, A3, z6, z9, rfl⟩ := ats_seven h
  obtain ⟨y0, y1, y2, y3, B1, y4, y7, B2, y5, y8, B3, y6, y9, rfl⟩ := ats_seven h'
  rw [hm] at C
  have HC := Lib.hid C
  have BX := box_alloc (((W.alloc (.cells #[.int .i64 z0, .int .i64 z1, .int .i64 z2, .string z3, .slice A1 z4 z7, .slice A2 z5 z8, .slice A3 z6 z9] 28)).alloc (.cells #[.int .i64 y0, .int .i64 y1, .int .i64 y2, .string y3, .slice B1 y4 y7, .slice B2 y5 y8, .slice B3 y6 y9] 28)).alloc (.cells #[.int .i64 0, .int .i64 0, .int .i64 0, .string ⟨#[]⟩, .slice none 0 0, .slice none 0 0, .slice none 0 0] 28)) #[.int .i64 z0, .int .i64 z1, .int .i64 z2, .string z3, .slice A1 z4 z7, .slice A2 z5 z8, .slice A3 z6 z9, .int .i64 y0, .int .i64 y1, .int .i64 y2, .string y3, .slice B1 y4 y7, .slice B2 y5 y8, .slice B3 y6 y9] 28
  rw [World.size_alloc, World.size_alloc, World.size_alloc] at BX
  have R := (box_alloc ((W.alloc (.cells #[.int .i64 z0, .int .i64 z1, .int .i64 z2, .string z3, .slice A1 z4 z7, .slice A2 z5 z8, .slice A3 z6 z9] 28)).alloc (.cells #[.int .i64 y0, .int .i64 y1, .int .i64 y2, .string y3, .slice B1 y4 y7, .slice B2 y5 y8, .slice B3 y6 y9] 28)) #[.int .i64 0, .int .i64 0, .int .i64 0, .string ⟨#[]⟩, .slice none 0 0, .slice none 0 0, .slice none 0 0] 28).later ((Later.rfl' _).alloc (.cells #[.int .i64 z0, .int .i64 z1, .int .i64 z2, .string z3, .slice A1 z4 z7, .slice A2 z5 z8, .slice A3 z6 z9, .int .i64 y0, .int .i64 y1, .int .i64 y2, .string y3, .slice B1 y4 y7, .slice B2 y5 y8, .slice B3 y6 y9] 28))
  rw [World.size_alloc, World.size_alloc] at R
  have HBX := Lib.hid BX; have HR := Lib.hid R
  clear C BX R h h' hm hcost hcost'
  go_enter Try.func28, Try.ntmps28
  go_wp2_with fail
  refine (HC.out _ _ HBX.out (((((Later.rfl' _).alloc _).alloc _).alloc _).alloc _)).mono ?_; rintro e w1 ⟨⟨x0, x1, x2, x3, E1, x4, x7, E2, x5, x8, E3, x6, x9, rfl, hEr⟩, hb1⟩
  have R := (HR.out.later hb1).later ((Later.rfl' _).alloc (.cells #[.int .i64 x0, .int .i64 x1, .int .i64 x2, .string x3, .slice E1 x4 x7, .slice E2 x5 x8, .slice E3 x6 x9] 28))
  have HL := Lib.hid (((((((Later.rfl' W).alloc _).alloc _).alloc _).alloc _).trans hb1).alloc (.cells #[.int .i64 x0, .int .i64 x1, .int .i64 x2, .string x3, .slice E1 x4 x7, .slice E2 x5 x8, .slice E3 x6 x9] 28))
  have HEr := Lib.hid (hEr m rfl)
  clear hb1 HBX HC HR hEr
  have r0 := R.cell (j := 0) rfl
  have f0 := R.free 0
  have r1 := R.cell (j := 1) rfl
  have f1 := R.free 1
  have r2 := R.cell (j := 2) rfl
  have f2 := R.free 2
  have r3 := R.cell (j := 3) rfl
  have f3 := R.free 3
  have r4 := R.cell (j := 4) rfl
  have f4 := R.free 4
  have r5 := R.cell (j := 5) rfl
  have f5 := R.free 5
  have r6 := R.cell (j := 6) rfl
  have f6 := R.free 6
  have rz := R.lt
  clear R
  go_wp2_with fail
  exact bodyPost_ret (v := .agg #[.int .i64 x0, .int .i64 x1, .int .i64 x2, .string x3, .slice E1 x4 x7, .slice E2 x5 x8, .slice E3 x6 x9]) (by simp [results, Try.results28, go_sem, r0, r1, r2, r3, r4, r5, r6]) rfl ⟨⟨_, _, _, _, _, _, _, _, _, _, _, _, _, rfl, HEr.out.2⟩, later_setFrom (by omega) [.int .i64 x0, .int .i64 x1, .int .i64 x2, .string x3, .slice E1 x4 x7, .slice E2 x5 x8, .slice E3 x6 x9] _ 0 HL.out⟩

end Go.Proofs.Ytghemlokpfipoaa
