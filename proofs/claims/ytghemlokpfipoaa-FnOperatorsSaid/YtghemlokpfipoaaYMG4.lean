/-
  ApplyOperator, both. The law FnOperators: its walk.
-/
import Derived.Test.YtghemlokpfipoaaYOPC1
import Derived.Test.YtghemlokpfipoaaYOPC2
import Derived.Test.YtghemlokpfipoaaYOPC3
import Derived.Test.YtghemlokpfipoaaYMG3
import Derived.Test.YtghemlokpfipoaaYOP3
import Derived.Test.YtghemlokpfipoaaYV1
import Derived.Test.YtghemlokpfipoaaYN5
import Derived.Deep.RegionHeld3
namespace Go.Proofs.Ytghemlokpfipoaa
open Go.ChangeShapes Go.WideShapes Go.ChangeAt Go.RowKit
set_option linter.unusedVariables false
set_option linter.unusedSimpArgs false

theorem implApplyNone (op : Int) (d d' : Vl) (hM : d.cost ≤ 130000) (hM' : d'.cost ≤ 130000) (hm : firstE [d, d'] = none) (W : World) (S S' : Nat → Prop) (cs cs' : List Value) (h : Ats W S (encV d) cs) (h' : Ats W S' (encV d') cs') :
    Calls Try.prog 28 #[.int .i64 op, .agg cs.toArray, .agg cs'.toArray] W fun r w' => LeafB W.heap.size w' (applyN op d d') r ∧ Later W w' := by
  by_cases k1 : d.kind = 1
  · exact implApplyNone1 op d d' k1 hM hM' hm W S S' cs cs' h h'
  · by_cases k2 : d.kind = 2
    · exact implApplyNone2 op d d' k2 hM hM' hm W S S' cs cs' h h'
    · by_cases k3 : d.kind = 3
      · exact implApplyNone3 op d d' k3 hM hM' hm W S S' cs cs' h h'
      · exact implApplyNone4 op d d' ⟨k1, k2, k3⟩ hM hM' hm W S S' cs cs' h h'

theorem specApply (op : Int) (d d' : Vl) (hM : d.cost ≤ 130000) (hM' : d'.cost ≤ 130000) (W : World) (S S' : Nat → Prop) (cs cs' : List Value) (h : Ats W S (encV d) cs) (h' : Ats W S' (encV d') cs') :
    Calls Try.prog 29 #[.int .i64 op, .agg cs.toArray, .agg cs'.toArray] W fun r w' => LeafOut w' (applyD op d d') r ∧ Later W w' := by
  unfold applyD
  cases hm : firstE [d, d'] with
  | some m => exact (specApplyErr op d d' (by omega) (by omega) m hm W S S' cs cs' h h').mono fun r w' hh => ⟨leaf_later hh.1 hh.2, hh.2⟩
  | none => exact (specApplyNone op d d' hM hM' hm W S S' cs cs' h h').mono fun r w' hh => ⟨hh.1.out, hh.2⟩


theorem implApply (op : Int) (d d' : Vl) (hM : d.cost ≤ 130000) (hM' : d'.cost ≤ 130000) (W : World) (S S' : Nat → Prop) (cs cs' : List Value) (h : Ats W S (encV d) cs) (h' : Ats W S' (encV d') cs') :
    Calls Try.prog 28 #[.int .i64 op, .agg cs.toArray, .agg cs'.toArray] W fun r w' => LeafOut w' (applyD op d d') r ∧ Later W w' := by
  unfold applyD
  cases hm : firstE [d, d'] with
  | some m => exact (implApplyErr op d d' (by omega) (by omega) m hm W S S' cs cs' h h').mono fun r w' hh => ⟨leaf_later hh.1 hh.2, hh.2⟩
  | none => exact (implApplyNone op d d' hM hM' hm W S S' cs cs' h h').mono fun r w' hh => ⟨hh.1.out, hh.2⟩

end Go.Proofs.Ytghemlokpfipoaa
namespace Go.Proofs.Ytghemlokpfipoaa
open Go.ChangeShapes Go.WideShapes Go.ChangeAt Go.RowKit
set_option linter.unusedVariables false
set_option linter.unusedSimpArgs false
set_option maxRecDepth 100000

theorem Held7.later {w w' : World} (hb : Later w w') {H : Nat} {c0 c1 c2 c3 c4 c5 c6 : Value} (h : Held7 w H c0 c1 c2 c3 c4 c5 c6) : Held7 w' H c0 c1 c2 c3 c4 c5 c6 :=
  ⟨kept_cell hb h.1, kept_cell hb h.2.1, kept_cell hb h.2.2.1, kept_cell hb h.2.2.2.1, kept_cell hb h.2.2.2.2.1, kept_cell hb h.2.2.2.2.2.1, kept_cell hb h.2.2.2.2.2.2⟩
theorem num_leaf {d : Vl} (hv : d.valid = true) (hk : d.kind = 1) : d = leafD 1 d.n 0 ⟨#[]⟩ := by
  obtain ⟨k, n, s, t, l, c, r, rfl⟩ := Vl.shape d
  simp only [Vl.kind] at hk
  subst hk
  rw [Vl.valid] at hv
  simp only [if_true, Bool.and_eq_true, decide_eq_true_eq] at hv
  obtain ⟨⟨h1, h2, h3⟩, h4, h5, _⟩ := hv
  have e1 := List.eq_nil_of_length_eq_zero h1
  have e2 := List.eq_nil_of_length_eq_zero h2
  have e3 := List.eq_nil_of_length_eq_zero h3
  have e5 : t = ⟨#[]⟩ := toList_inj.1 (h5.trans empty_list.symm)
  subst e1 e2 e3 h4 e5
  rfl
theorem same_num (n n' : Int) : Vl.same false (leafD 1 n 0 ⟨#[]⟩) (leafD 1 n' 0 ⟨#[]⟩) = decide (n = n') := by
  unfold leafD
  rw [same_mk]
  simp [allSame, sameL]
theorem errOf_num {d : Vl} (hv : d.valid = true) (hk : d.kind = 1) : errOf d = none := by
  unfold errOf
  rw [if_pos hv, if_neg (by rw [hk]; decide)]
theorem apply_num (o : Int) {d d' : Vl} (hv : d.valid = true) (hv' : d'.valid = true) (hk : d.kind = 1) (hk' : d'.kind = 1) : applyD o d d' = applyN o d d' := by
  unfold applyD
  rw [first_two, errOf_num hv hk, errOf_num hv' hk']
theorem apply_turn {o : Int} {d d' : Vl} (hv : d.valid = true) (hv' : d'.valid = true) (hk : d.kind = 1) (hk' : d'.kind = 1) (ho : o = 1 ∨ o = 3 ∨ o = 5) : applyD o d d' = applyD o d' d := by
  rw [apply_num o hv hv' hk hk', apply_num o hv' hv hk' hk]
  unfold applyN
  rcases ho with rfl | rfl | rfl
  · rw [if_pos rfl, if_pos rfl]
    unfold addD
    rw [if_pos ⟨hk, hk'⟩, if_pos ⟨hk', hk⟩, Int.add_comm]
  · rw [if_neg (by decide), if_neg (by decide), if_neg (by decide), if_neg (fun h => absurd h.1 (by decide)), if_pos ⟨rfl, hk, hk'⟩, if_neg (by decide), if_neg (by decide), if_neg (by decide), if_neg (fun h => absurd h.1 (by decide)), if_pos ⟨rfl, hk', hk⟩, Int.mul_comm]
  · rw [if_neg (by decide), if_neg (by decide), if_pos rfl, if_neg (by decide), if_neg (by decide), if_pos rfl, num_leaf hv hk, num_leaf hv' hk', same_num, same_num]
    congr 1
    rw [decide_eq_decide]
    exact ⟨fun h => h.symm, fun h => h.symm⟩
theorem true_truth (b : Bool) : isTrueB (truthD b) = b := by cases b <;> rfl
theorem apply_less {d d' : Vl} (hv : d.valid = true) (hv' : d'.valid = true) (hk : d.kind = 1) (hk' : d'.kind = 1) : isTrueB (applyD 4 d d') = decide (d.n < d'.n) := by
  rw [apply_num 4 hv hv' hk hk']
  unfold applyN lessD
  rw [if_neg (by decide), if_pos rfl, if_pos ⟨hk, hk'⟩, true_truth]
theorem cost_nil (k n s : Int) : (leafD k n s ⟨#[]⟩).cost ≤ 1099511627776 := by rw [cost_leaf]; decide
theorem cost_applyD (o : Int) {d d' : Vl} (hM : d.cost ≤ 130000) (hM' : d'.cost ≤ 130000) : (applyD o d d').cost ≤ 1099511627776 := by
  have h2 := two_cost hM hM'
  unfold applyD
  cases firstE [d, d'] with
  | some m => exact cost_nil _ _ _
  | none =>
    simp only
    unfold applyN addD lessD
    repeat' split
    all_goals first
      | exact cost_nil _ _ _
      | (unfold addT; split
         · rw [cost_leaf, ByteArray.size_append]; omega
         · exact cost_nil _ _ _)
      | (unfold addL; split
         · rw [cost_list]; omega
         · exact cost_nil _ _ _)

set_option maxHeartbeats 40000000 in
theorem walk_FnOperators (v : Value) (n : Nat) (w : World) (h : BytesAt w v n) : Calls Try.prog 6 #[v] w fun r w' => r = .returned (.bool true) ∧ Later w w' := by
  by_cases hbig : 1048576 < n
  · have C0 := bigBytes v n w h
    rw [show decide (1048576 < n) = true by simp; omega] at C0
    have HB := Lib.hid C0
    clear C0 hbig h
    go_enter Try.func6, Try.ntmps6
    go_wp2_with fail
    refine HB.out.mono ?_; rintro e w1 ⟨rfl, hb1⟩
    go_wp2_with fail
    go_ret
    exact ⟨rfl, hb1⟩
  · have C0 := bigBytes v n w h
    rw [show decide (1048576 < n) = false by simp; omega] at C0
    have hle : n ≤ 1048576 := by omega
    have C1 := fun W (hW : Later w W) => drawApplyOperator v n W (BytesAt.later h hW) hle
    have HB := Lib.hid C0; have HD := Lib.hid C1
    clear C0 C1 hbig hle h
    go_enter Try.func6, Try.ntmps6
    go_wp2_with fail
    refine HB.out.mono ?_; rintro e w1 ⟨rfl, hb⟩
    have L := Lib.hid hb; clear hb HB
    go_wp2_with fail
    refine (HD.out _ L.out).mono ?_; rintro e w2 ⟨⟨op, d, d', z0, z1, z2, z3, A1, z4, z7, A2, z5, z8, A3, z6, z9, y0, y1, y2, y3, B1, y4, y7, B2, y5, y8, B3, y6, y9, hop, rfl, hz, hy, hM, hM'⟩, hb⟩
    obtain ⟨o, ho⟩ : ∃ o : Int, o = (op : Int) := ⟨_, rfl⟩
    rw [← ho]
    clear ho hop
    obtain ⟨X, hX⟩ : ∃ X, X = (w2.alloc (.cells #[.int .i64 z0, .int .i64 z1, .int .i64 z2, .string z3, .slice A1 z4 z7, .slice A2 z5 z8, .slice A3 z6 z9] 28)).alloc (.cells #[.int .i64 y0, .int .i64 y1, .int .i64 y2, .string y3, .slice B1 y4 y7, .slice B2 y5 y8, .slice B3 y6 y9] 28) := ⟨_, rfl⟩
    have hl : Later w2 X := by rw [hX]; exact ((Later.rfl' _).alloc _).alloc _
    have hB : Box X w2.heap.size [.int .i64 z0, .int .i64 z1, .int .i64 z2, .string z3, .slice A1 z4 z7, .slice A2 z5 z8, .slice A3 z6 z9] := by rw [hX]; exact (box_alloc w2 #[.int .i64 z0, .int .i64 z1, .int .i64 z2, .string z3, .slice A1 z4 z7, .slice A2 z5 z8, .slice A3 z6 z9] 28).later ((Later.rfl' _).alloc _)
    have hB' : Box X (w2.heap.size + 1) [.int .i64 y0, .int .i64 y1, .int .i64 y2, .string y3, .slice B1 y4 y7, .slice B2 y5 y8, .slice B3 y6 y9] := by
      rw [hX]
      have h := box_alloc (w2.alloc (.cells #[.int .i64 z0, .int .i64 z1, .int .i64 z2, .string z3, .slice A1 z4 z7, .slice A2 z5 z8, .slice A3 z6 z9] 28)) #[.int .i64 y0, .int .i64 y1, .int .i64 y2, .string y3, .slice B1 y4 y7, .slice B2 y5 y8, .slice B3 y6 y9] 28
      rw [World.size_alloc] at h
      exact h
    have hkz := ats_kn hz
    have hky := ats_kn hy
    have HL := Lib.hid ((L.out.trans hb).trans hl)
    have HBa := Lib.hid hB; have HBb := Lib.hid hB'
    have HXX := Lib.hid hX; have HKZ := Lib.hid hkz; have HKY := Lib.hid hky
    have hc1 := fun W' (hW : Later X W') => implApply o d d' (by omega) (by omega) W' anyB anyB _ _ ((hz.later hl).later hW) ((hy.later hl).later hW)
    have hc2 := fun W' (hW : Later X W') => specApply o d d' (by omega) (by omega) W' anyB anyB _ _ ((hz.later hl).later hW) ((hy.later hl).later hW)
    have hc3 := fun W' (hW : Later X W') => implApply o d' d (by omega) (by omega) W' anyB anyB _ _ ((hy.later hl).later hW) ((hz.later hl).later hW)
    have hc4 := fun W' (hW : Later X W') => specValid d (by omega) W' anyB _ ((hz.later hl).later hW)
    have hc5 := fun W' (hW : Later X W') => specValid d' (by omega) W' anyB _ ((hy.later hl).later hW)
    have hval := valid_applyD o d d'
    have hturn := fun (a : d.valid = true) (b : d'.valid = true) (c : d.kind = 1) (e : d'.kind = 1) (h : o = 1 ∨ o = 3 ∨ o = 5) => apply_turn a b c e h
    have hless := fun (a : d.valid = true) (b : d'.valid = true) (c : d.kind = 1) (e : d'.kind = 1) (h : o = 4) => (show isTrueB (applyD o d d') = decide (d.n < d'.n) by rw [h]; exact apply_less a b c e)
    have hless2 := fun (a : d.valid = true) (b : d'.valid = true) (c : d.kind = 1) (e : d'.kind = 1) (h : o = 4) => (show isTrueB (applyD o d' d) = decide (d'.n < d.n) by rw [h]; exact apply_less b a e c)
    obtain ⟨K1, hK1⟩ : ∃ K, K = applyD o d d' := ⟨_, rfl⟩
    obtain ⟨K2, hK2⟩ : ∃ K, K = applyD o d' d := ⟨_, rfl⟩
    simp only [← hK1] at hc1 hc2 hval hturn hless
    simp only [← hK2] at hc3 hturn hless2
    have hc6 := fun (K : Vl) W' cs cs' (a : Ats W' anyB (encV K) cs) (b : Ats W' anyB (encV K) cs') => specEqualValue K K W' anyB anyB cs cs' a b
    simp only [vl_same_self] at hc6
    have hc8 := fun (K : Vl) W' cs (a : Ats W' anyB (encV K) cs) => implIsTrue K W' anyB cs a
    have hcost := cost_applyD o (d := d) (d' := d') (by omega) (by omega)
    rw [← hK1] at hcost
    have hc7 := fun W' cs (a : Ats W' anyB (encV K1) cs) => specValid K1 hcost W' anyB cs a
    rw [hval] at hc7
    have C7 := Lib.hid hc7
    clear hc7
    have C1 := Lib.hid hc1; have C2 := Lib.hid hc2; have C3 := Lib.hid hc3; have C4 := Lib.hid hc4; have C5 := Lib.hid hc5; have C6 := Lib.hid hc6; have C8 := Lib.hid hc8
    have HVAL := Lib.hid hval; have HTURN := Lib.hid hturn; have HLESS := Lib.hid hless; have HLESS2 := Lib.hid hless2
    clear hb L HD hl hB hB' hz hy hM hM' hX hkz hky hc1 hc2 hc3 hc4 hc5 hc6 hc8 hval hturn hless hless2 hK1 hK2 hcost
    go_wp2_with fail
    rw [← HXX.out]
    clear HXX
    refine (C1.out _ (Later.rfl' _)).mono ?_; rintro e w4 ⟨⟨e0, e1, e2, e3, E1, e4, e7, E2, e5, e8, E3, e6, e9, rfl, he⟩, hb⟩
    have hlb : Later X (w4.alloc (.cells #[.int .i64 e0, .int .i64 e1, .int .i64 e2, .string e3, .slice E1 e4 e7, .slice E2 e5 e8, .slice E3 e6 e9] 28)) := hb.alloc _
    have HE := Lib.hid (fun W' (hW : Later (w4.alloc (.cells #[.int .i64 e0, .int .i64 e1, .int .i64 e2, .string e3, .slice E1 e4 e7, .slice E2 e5 e8, .slice E3 e6 e9] 28)) W') => he W' (((Later.rfl' w4).alloc _).trans hW))
    have HBe := Lib.hid (box_alloc w4 #[.int .i64 e0, .int .i64 e1, .int .i64 e2, .string e3, .slice E1 e4 e7, .slice E2 e5 e8, .slice E3 e6 e9] 28)
    replace HBa := Lib.hid (HBa.out.later hlb); replace HBb := Lib.hid (HBb.out.later hlb); replace HL := Lib.hid (HL.out.trans hlb)
    have HLX := Lib.hid hlb
    clear he hb hlb C1
    obtain ⟨a0, a1, a2, a3, a4, a5, a6⟩ := Held7.of HBa.out
    obtain ⟨b0, b1, b2, b3, b4, b5, b6⟩ := Held7.of HBb.out
    obtain ⟨p0, p1, p2, p3, p4, p5, p6⟩ := Held7.of HBe.out
    go_wp2_with fail
    go_region_held3 (fun w' => (w'.cell? ⟨w2.heap.size, 0, none⟩ = some (.int .i64 z0) ∧ w'.cell? ⟨w2.heap.size, 1, none⟩ = some (.int .i64 z1) ∧ w'.cell? ⟨w2.heap.size, 2, none⟩ = some (.int .i64 z2) ∧ w'.cell? ⟨w2.heap.size, 3, none⟩ = some (.string z3) ∧ w'.cell? ⟨w2.heap.size, 4, none⟩ = some (.slice A1 z4 z7) ∧ w'.cell? ⟨w2.heap.size, 5, none⟩ = some (.slice A2 z5 z8) ∧ w'.cell? ⟨w2.heap.size, 6, none⟩ = some (.slice A3 z6 z9)) ∧ (w'.cell? ⟨w2.heap.size + 1, 0, none⟩ = some (.int .i64 y0) ∧ w'.cell? ⟨w2.heap.size + 1, 1, none⟩ = some (.int .i64 y1) ∧ w'.cell? ⟨w2.heap.size + 1, 2, none⟩ = some (.int .i64 y2) ∧ w'.cell? ⟨w2.heap.size + 1, 3, none⟩ = some (.string y3) ∧ w'.cell? ⟨w2.heap.size + 1, 4, none⟩ = some (.slice B1 y4 y7) ∧ w'.cell? ⟨w2.heap.size + 1, 5, none⟩ = some (.slice B2 y5 y8) ∧ w'.cell? ⟨w2.heap.size + 1, 6, none⟩ = some (.slice B3 y6 y9)) ∧ (w'.cell? ⟨w4.heap.size, 0, none⟩ = some (.int .i64 e0) ∧ w'.cell? ⟨w4.heap.size, 1, none⟩ = some (.int .i64 e1) ∧ w'.cell? ⟨w4.heap.size, 2, none⟩ = some (.int .i64 e2) ∧ w'.cell? ⟨w4.heap.size, 3, none⟩ = some (.string e3) ∧ w'.cell? ⟨w4.heap.size, 4, none⟩ = some (.slice E1 e4 e7) ∧ w'.cell? ⟨w4.heap.size, 5, none⟩ = some (.slice E2 e5 e8) ∧ w'.cell? ⟨w4.heap.size, 6, none⟩ = some (.slice E3 e6 e9)))
      (first | with_reducible exact ⟨Held7.drew (Held7.of HBa.out), Held7.drew (Held7.of HBb.out), Held7.drew (Held7.of HBe.out)⟩ | with_reducible exact ⟨Held7.later hb4 (Held7.drew (Held7.of HBa.out)), Held7.later hb4 (Held7.drew (Held7.of HBb.out)), Held7.later hb4 (Held7.drew (Held7.of HBe.out))⟩ | with_reducible exact ⟨Held7.later hb5 (Held7.later hb4 (Held7.drew (Held7.of HBa.out))), Held7.later hb5 (Held7.later hb4 (Held7.drew (Held7.of HBb.out))), Held7.later hb5 (Held7.later hb4 (Held7.drew (Held7.of HBe.out)))⟩ | with_reducible exact ⟨Held7.later hb6 (Held7.later hb5 (Held7.later hb4 (Held7.drew (Held7.of HBa.out)))), Held7.later hb6 (Held7.later hb5 (Held7.later hb4 (Held7.drew (Held7.of HBb.out)))), Held7.later hb6 (Held7.later hb5 (Held7.later hb4 (Held7.drew (Held7.of HBe.out))))⟩)
      (first | (go_at_call 29; refine (C2.out _ (HLX.out.trans (Later.rfl' _).drew)).mono ?_; rintro r w5 ⟨⟨x0, x1, x2, x3, G1, x4, x7, G2, x5, x8, G3, x6, x9, rfl, hx⟩, hb4⟩; have HX := Lib.hid hx; clear hx) | (go_at_call 15; refine (C6.out K1 _ _ _ (HE.out _ ((Later.rfl' _).drew.trans hb4)) (HX.out _ (Later.rfl' _))).mono ?_; rintro r w6 ⟨rfl, hb5⟩) | (go_at_call 30; refine (C7.out _ _ (HE.out _ (((Later.rfl' _).drew.trans hb4).trans hb5))).mono ?_; rintro r w7 ⟨rfl, hb6⟩))
    all_goals
      (rename_i hHL; clear hHL
       have T := Lib.hid ((Later.rfl' _).drew.trans (hb4.trans (hb5.trans hb6)))
       clear a0 a1 a2 a3 a4 a5 a6 b0 b1 b2 b3 b4 b5 b6 p0 p1 p2 p3 p4 p5 p6 HX
       replace HBa := Lib.hid (HBa.out.later T.out); replace HBb := Lib.hid (HBb.out.later T.out); replace HBe := Lib.hid (HBe.out.later T.out); replace HL := Lib.hid (HL.out.trans T.out); replace HLX := Lib.hid (HLX.out.trans T.out)
       replace HE := Lib.hid (fun W' (hW : Later w7 W') => HE.out W' (T.out.trans hW))
       clear T hb4 hb5 hb6 C2 C7
       obtain ⟨a0, a1, a2, a3, a4, a5, a6⟩ := Held7.of HBa.out
       obtain ⟨b0, b1, b2, b3, b4, b5, b6⟩ := Held7.of HBb.out
       go_wp2_with fail
       refine (C3.out _ HLX.out).mono ?_; rintro e w8 ⟨⟨f0, f1, f2, f3, F1, f4, f7, F2, f5, f8, F3, f6, f9, rfl, hf⟩, hb⟩
       have hlb : Later w7 (w8.alloc (.cells #[.int .i64 f0, .int .i64 f1, .int .i64 f2, .string f3, .slice F1 f4 f7, .slice F2 f5 f8, .slice F3 f6 f9] 28)) := hb.alloc _
       have HF := Lib.hid (fun W' (hW : Later (w8.alloc (.cells #[.int .i64 f0, .int .i64 f1, .int .i64 f2, .string f3, .slice F1 f4 f7, .slice F2 f5 f8, .slice F3 f6 f9] 28)) W') => hf W' (((Later.rfl' w8).alloc _).trans hW))
       have HBf := Lib.hid (box_alloc w8 #[.int .i64 f0, .int .i64 f1, .int .i64 f2, .string f3, .slice F1 f4 f7, .slice F2 f5 f8, .slice F3 f6 f9] 28)
       replace HBa := Lib.hid (HBa.out.later hlb); replace HBb := Lib.hid (HBb.out.later hlb); replace HBe := Lib.hid (HBe.out.later hlb); replace HL := Lib.hid (HL.out.trans hlb); replace HLX := Lib.hid (HLX.out.trans hlb)
       replace HE := Lib.hid (fun W' (hW : Later (w8.alloc (.cells #[.int .i64 f0, .int .i64 f1, .int .i64 f2, .string f3, .slice F1 f4 f7, .slice F2 f5 f8, .slice F3 f6 f9] 28)) W') => HE.out W' (hlb.trans hW))
       clear a0 a1 a2 a3 a4 a5 a6 b0 b1 b2 b3 b4 b5 b6 hf hb hlb C3
       obtain ⟨a0, a1, a2, a3, a4, a5, a6⟩ := Held7.of HBa.out
       obtain ⟨b0, b1, b2, b3, b4, b5, b6⟩ := Held7.of HBb.out
       by_cases hz1 : z0 = 1
       · subst hz1
         by_cases hy1 : y0 = 1
         · subst hy1
           obtain ⟨vb1, hb1⟩ : ∃ b, b = d.valid := ⟨_, rfl⟩
           obtain ⟨vb2, hb2⟩ : ∃ b, b = d'.valid := ⟨_, rfl⟩
           rw [← hb1] at C4
           rw [← hb2] at C5
           have CV1 := C4.out _ HLX.out
           have HT1 := Lib.hid hb1; have HT2 := Lib.hid hb2
           clear hb1 hb2 C4
           cases vb1 with
           | false =>
             have CC := Lib.hid CV1
             clear CV1
             go_wp2_with fail
             refine CC.out.mono ?_; rintro e w9 ⟨rfl, hb⟩
             go_wp2_with fail
             go_ret
             exact ⟨rfl, HL.out.trans hb⟩
           | true =>
             have CC := Lib.hid CV1
             clear CV1
             go_wp2_with fail
             refine CC.out.mono ?_; rintro e w9 ⟨rfl, hb⟩
             clear a0 a1 a2 a3 a4 a5 a6 b0 b1 b2 b3 b4 b5 b6
             replace HBb := Lib.hid (HBb.out.later hb); replace HBe := Lib.hid (HBe.out.later hb); replace HBf := Lib.hid (HBf.out.later hb); replace HL := Lib.hid (HL.out.trans hb); replace HLX := Lib.hid (HLX.out.trans hb)
             replace HE := Lib.hid (fun W' (hW : Later w9 W') => HE.out W' (hb.trans hW)); replace HF := Lib.hid (fun W' (hW : Later w9 W') => HF.out W' (hb.trans hW))
             clear hb CC
             have CV2 := C5.out _ HLX.out
             have CC := Lib.hid CV2
             obtain ⟨b0, b1, b2, b3, b4, b5, b6⟩ := Held7.of HBb.out
             clear CV2
             cases vb2 with
             | false =>
               go_wp2_with fail
               refine CC.out.mono ?_; rintro e wa ⟨rfl, hb⟩
               go_wp2_with fail
               go_ret
               exact ⟨rfl, HL.out.trans hb⟩
             | true =>
               have hkk := HKZ.out.1; have hkk' := HKY.out.1
               have htu := HTURN.out HT1.out.symm HT2.out.symm hkk hkk'
               have hle1 := HLESS.out HT1.out.symm HT2.out.symm hkk hkk'
               have hle2 := HLESS2.out HT1.out.symm HT2.out.symm hkk hkk'
               have HTU := Lib.hid htu; have HL1 := Lib.hid hle1; have HL2 := Lib.hid hle2
               clear hkk hkk' htu hle1 hle2 HTURN HLESS HLESS2
               go_wp2_with fail
               refine CC.out.mono ?_; rintro e wa ⟨rfl, hb⟩
               clear b0 b1 b2 b3 b4 b5 b6
               replace HBe := Lib.hid (HBe.out.later hb); replace HBf := Lib.hid (HBf.out.later hb); replace HL := Lib.hid (HL.out.trans hb)
               replace HE := Lib.hid (fun W' (hW : Later wa W') => HE.out W' (hb.trans hW)); replace HF := Lib.hid (fun W' (hW : Later wa W') => HF.out W' (hb.trans hW))
               clear hb CC
               obtain ⟨p0, p1, p2, p3, p4, p5, p6⟩ := Held7.of HBe.out
               obtain ⟨c0, c1, c2, c3, c4, c5, c6⟩ := Held7.of HBf.out
               by_cases h1 : o = 1
               · subst h1
                 have hK : K1 = K2 := HTU.out (by decide)
                 have hC6 := C6.out K1 wa _ _ (HE.out _ (Later.rfl' _)) (by rw [hK]; exact HF.out _ (Later.rfl' _))
                 have CC := Lib.hid hC6
                 clear hK hC6
                 go_wp2_with fail
                 refine CC.out.mono ?_; rintro e wb ⟨rfl, hb⟩
                 go_wp2_with fail
                 go_ret
                 exact ⟨rfl, HL.out.trans hb⟩
               · by_cases h3 : o = 3
                 · subst h3
                   clear h1
                   have hK : K1 = K2 := HTU.out (by decide)
                   have hC6 := C6.out K1 wa _ _ (HE.out _ (Later.rfl' _)) (by rw [hK]; exact HF.out _ (Later.rfl' _))
                   have CC := Lib.hid hC6
                   clear hK hC6
                   go_wp2_with fail
                   refine CC.out.mono ?_; rintro e wb ⟨rfl, hb⟩
                   go_wp2_with fail
                   go_ret
                   exact ⟨rfl, HL.out.trans hb⟩
                 · by_cases h5 : o = 5
                   · subst h5
                     clear h1 h3
                     have hK : K1 = K2 := HTU.out (by decide)
                     have hC6 := C6.out K1 wa _ _ (HE.out _ (Later.rfl' _)) (by rw [hK]; exact HF.out _ (Later.rfl' _))
                     have CC := Lib.hid hC6
                     clear hK hC6
                     go_wp2_with fail
                     refine CC.out.mono ?_; rintro e wb ⟨rfl, hb⟩
                     go_wp2_with fail
                     go_ret
                     exact ⟨rfl, HL.out.trans hb⟩
                   · by_cases h4 : o = 4
                     · subst h4
                       have hl1 := HL1.out rfl
                       have hl2 := HL2.out rfl
                       have hT1 := C8.out K1 wa _ (HE.out _ (Later.rfl' _))
                       rw [hl1] at hT1
                       by_cases hlt : d.n < d'.n
                       · have hng : ¬ d'.n < d.n := by omega
                         rw [decide_eq_true hlt] at hT1
                         rw [decide_eq_false hng] at hl2
                         have CC := Lib.hid hT1
                         have HL2' := Lib.hid hl2
                         clear hT1 hl1 hl2 hlt hng HL1 HL2 h1 h3 h5
                         go_wp2_with fail
                         refine CC.out.mono ?_; rintro e wb ⟨rfl, hb⟩
                         clear p0 p1 p2 p3 p4 p5 p6 c0 c1 c2 c3 c4 c5 c6
                         have hT2 := C8.out K2 wb _ (HF.out _ hb)
                         rw [HL2'.out] at hT2
                         have CD := Lib.hid hT2
                         replace HBf := Lib.hid (HBf.out.later hb); replace HL := Lib.hid (HL.out.trans hb)
                         clear hT2 hb CC
                         obtain ⟨c0, c1, c2, c3, c4, c5, c6⟩ := Held7.of HBf.out
                         go_wp2_with fail
                         refine CD.out.mono ?_; rintro e wc ⟨rfl, hb⟩
                         go_wp2_with fail
                         go_ret
                         exact ⟨rfl, HL.out.trans hb⟩
                       · rw [decide_eq_false hlt] at hT1
                         have CC := Lib.hid hT1
                         clear hT1 hl1 hl2 hlt HL1 HL2 h1 h3 h5
                         go_wp2_with fail
                         refine CC.out.mono ?_; rintro e wb ⟨rfl, hb⟩
                         go_wp2_with fail
                         go_ret
                         exact ⟨rfl, HL.out.trans hb⟩
                     · clear HL1 HL2 HTU
                       have o1 : (o == 1) = false := by simpa using h1
                       have o3 : (o == 3) = false := by simpa using h3
                       have o5 : (o == 5) = false := by simpa using h5
                       have o4 : (o != 4) = true := by simpa using h4
                       clear h1 h3 h5 h4
                       go_wp2_with fail
                       go_ret
                       exact ⟨rfl, HL.out⟩
         · have e1 : (y0 == 1) = false := by simpa using hy1
           clear hy1
           go_wp2_with fail
           go_ret
           exact ⟨rfl, HL.out⟩
       · have e1 : (z0 == 1) = false := by simpa using hz1
         clear hz1
         go_wp2_with fail
         go_ret
         exact ⟨rfl, HL.out⟩)

end Go.Proofs.Ytghemlokpfipoaa
