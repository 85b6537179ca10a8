/-
  The law FnOperandErrors: its walk.
-/
import Derived.Test.YtghemlokpfipoaaYOP3
import Derived.Test.YtghemlokpfipoaaYOP1
import Derived.Test.YtghemlokpfipoaaYOPL
import Derived.Test.YtghemlokpfipoaaYN5
import Derived.Deep.RegionHeld3
namespace Go.Proofs.Ytghemlokpfipoaa
open Go.ChangeShapes Go.WideShapes Go.ChangeAt Go.RowKit
set_option linter.unusedVariables false
set_option linter.unusedSimpArgs false
set_option maxRecDepth 100000

theorem errOf_errD {m : Int} (h1 : 1 ≤ m) (h2 : m ≤ 8) : errOf (errD m) = some m := by
  unfold errOf
  rw [if_pos (valid_errD h1 h2)]
  rfl
theorem first_bad {m : Int} (d' : Vl) (h1 : 1 ≤ m) (h2 : m ≤ 8) : firstE [errD m, d'] = some m := by rw [first_two, errOf_errD h1 h2]
def orErr (d : Vl) (m : Int) : Int := match errOf d with | some n => n | none => m
theorem first_or {m : Int} (d : Vl) (h1 : 1 ≤ m) (h2 : m ≤ 8) : firstE [d, errD m] = some (orErr d m) := by
  rw [first_two, errOf_errD h1 h2]
  unfold orErr
  cases errOf d <;> rfl
theorem orErr_range {d : Vl} {m : Int} (h1 : 1 ≤ m) (h2 : m ≤ 8) : 1 ≤ orErr d m ∧ orErr d m ≤ 8 := by
  unfold orErr
  cases h : errOf d with
  | some n => exact err_range h
  | none => exact ⟨h1, h2⟩
theorem orErr_good {d : Vl} {m : Int} (hv : d.valid = true) (hk : d.kind ≠ 6) : orErr d m = m := by
  unfold orErr errOf
  rw [if_pos hv, if_neg hk]
theorem Held7.later {w w' : World} (hb : Later w w') {H : Nat} {c0 c1 c2 c3 c4 c5 c6 : Value} (h : Held7 w H c0 c1 c2 c3 c4 c5 c6) : Held7 w' H c0 c1 c2 c3 c4 c5 c6 :=
  ⟨kept_cell hb h.1, kept_cell hb h.2.1, kept_cell hb h.2.2.1, kept_cell hb h.2.2.2.1, kept_cell hb h.2.2.2.2.1, kept_cell hb h.2.2.2.2.2.1, kept_cell hb h.2.2.2.2.2.2⟩

/-- A byte of the draw's, or a number that follows from its length. -/
theorem at0B (v : Value) (n : Nat) (W : World) (h : BytesAt W v n) (hn : n ≤ 1048576) : Calls Try.prog 33 #[v, .int .i64 0] W fun r w' => (∃ x : Nat, x < 256 ∧ r = .returned (.int .i64 (x : Int))) ∧ W = w' := by
  obtain ⟨A, c, rfl, h1, h2, h3⟩ := h
  by_cases h0 : 0 < n
  · obtain ⟨b, off, rfl, hb, hx⟩ := h3 h0
    obtain ⟨x, hx256, e0⟩ := hx 0 h0
    have hki : (0 : Int) < (n : Int) := by omega
    have HX := Lib.hid hx256
    have e1 : W.cell? ⟨b, off, none⟩ = some (.int .u8 (x : Int)) := by simpa using e0
    have hxb : (x : Int) < 256 := by omega
    have hxc : (0 : Int) ≤ (x : Int) := by omega
    clear h3 hx hx256 e0
    go_enter Try.func33, Try.ntmps33
    go_wp2_with fail
    go_ret
    exact ⟨⟨x, HX.out, rfl⟩, rfl⟩
  · have hn0 : n = 0 := by omega
    subst hn0
    clear h3 h0
    go_enter Try.func33, Try.ntmps33
    go_wp2_with fail
    go_ret
    exact ⟨⟨0, by omega, rfl⟩, rfl⟩

set_option maxHeartbeats 40000000 in
theorem walk_FnOperandErrors (v : Value) (n : Nat) (w : World) (h : BytesAt w v n) : Calls Try.prog 7 #[v] w fun r w' => r = .returned (.bool true) ∧ Later w w' := by
  by_cases hbig : 1048576 < n
  · have C0 := bigBytes v n w h
    rw [show decide (1048576 < n) = true by simp; omega] at C0
    have HB := Lib.hid C0
    clear C0 hbig h
    go_enter Try.func7, Try.ntmps7
    go_wp2_with fail
    refine HB.out.mono ?_; rintro e w1 ⟨rfl, hb1⟩
    go_wp2_with fail
    go_ret
    exact ⟨rfl, hb1⟩
  · have C0 := bigBytes v n w h
    rw [show decide (1048576 < n) = false by simp; omega] at C0
    have hle : n ≤ 1048576 := by omega
    have C1 := fun W (hW : Later w W) => drawApplyOperator v n W (BytesAt.later h hW) hle
    have C2 := fun W (hW : Later w W) => at0B v n W (BytesAt.later h hW) hle
    have HB := Lib.hid C0; have HD := Lib.hid C1; have HA := Lib.hid C2
    clear C0 C1 C2 hbig hle h
    go_enter Try.func7, Try.ntmps7
    go_wp2_with fail
    refine HB.out.mono ?_; rintro e w1 ⟨rfl, hb⟩
    have L := Lib.hid hb; clear hb HB
    go_wp2_with fail
    refine (HD.out _ L.out).mono ?_; rintro e w2 ⟨⟨op, d, d', z0, z1, z2, z3, A1, z4, z7, A2, z5, z8, A3, z6, z9, y0, y1, y2, y3, B1, y4, y7, B2, y5, y8, B3, y6, y9, hop, rfl, hz, hy, hM, hM'⟩, hb⟩
    obtain ⟨X, hX⟩ : ∃ X, X = (w2.alloc (.cells #[.int .i64 z0, .int .i64 z1, .int .i64 z2, .string z3, .slice A1 z4 z7, .slice A2 z5 z8, .slice A3 z6 z9] 28)).alloc (.cells #[.int .i64 y0, .int .i64 y1, .int .i64 y2, .string y3, .slice B1 y4 y7, .slice B2 y5 y8, .slice B3 y6 y9] 28) := ⟨_, rfl⟩
    have hl : Later w2 X := by rw [hX]; exact ((Later.rfl' _).alloc _).alloc _
    have hB : Box X w2.heap.size [.int .i64 z0, .int .i64 z1, .int .i64 z2, .string z3, .slice A1 z4 z7, .slice A2 z5 z8, .slice A3 z6 z9] := by rw [hX]; exact (box_alloc w2 #[.int .i64 z0, .int .i64 z1, .int .i64 z2, .string z3, .slice A1 z4 z7, .slice A2 z5 z8, .slice A3 z6 z9] 28).later ((Later.rfl' _).alloc _)
    have hB' : Box X (w2.heap.size + 1) [.int .i64 y0, .int .i64 y1, .int .i64 y2, .string y3, .slice B1 y4 y7, .slice B2 y5 y8, .slice B3 y6 y9] := by
      rw [hX]
      have h := box_alloc (w2.alloc (.cells #[.int .i64 z0, .int .i64 z1, .int .i64 z2, .string z3, .slice A1 z4 z7, .slice A2 z5 z8, .slice A3 z6 z9] 28)) #[.int .i64 y0, .int .i64 y1, .int .i64 y2, .string y3, .slice B1 y4 y7, .slice B2 y5 y8, .slice B3 y6 y9] 28
      rw [World.size_alloc] at h
      exact h
    have hkz := ats_kn hz
    have HL := Lib.hid ((L.out.trans hb).trans hl)
    have HZ := Lib.hid (hz.later hl); have HY := Lib.hid (hy.later hl)
    have HBa := Lib.hid hB; have HBb := Lib.hid hB'
    have HXX := Lib.hid hX; have HKZ := Lib.hid hkz.1
    have HM : Hid (d.cost ≤ 1099511627776) := by unfold Hid; omega
    have HM' : Hid (d'.cost ≤ 1099511627776) := by unfold Hid; omega
    clear hb L HD hl hB hB' hz hy hM hM' hX hkz hop
    go_wp2_with fail
    rw [← HXX.out]
    clear HXX
    refine (HA.out _ HL.out).mono ?_; rintro e wx ⟨⟨x, hx, rfl⟩, rfl⟩
    have ht : (x : Int).tmod 8 = ((x % 8 : Nat) : Int) := rfl
    have ht2 : (x : Int) % 8 = ((x % 8 : Nat) : Int) := rfl
    have hx8 : x % 8 < 8 := Nat.mod_lt _ (by omega)
    obtain ⟨y, hy⟩ : ∃ y, y = x % 8 := ⟨_, rfl⟩
    rw [← hy] at ht ht2 hx8
    clear hy HA
    go_wp2_with fail
    refine (implErrorValue (1 + (y : Int)) _).mono ?_; rintro e w4 ⟨rfl, hb⟩
    unfold leafA
    clear ht ht2
    obtain ⟨mm, hmm⟩ : ∃ mm, mm = 1 + (y : Int) := ⟨_, rfl⟩
    have hm1 : 1 ≤ mm := by omega
    have hm8 : mm ≤ 8 := by omega
    rw [← hmm]
    clear hmm hx8 hx
    have hr2 := orErr_range (d := d) hm1 hm8
    obtain ⟨m2, hm2⟩ : ∃ m2, m2 = orErr d mm := ⟨_, rfl⟩
    rw [← hm2] at hr2
    have hl4 : Later X (w4.alloc (.cells #[.int .i64 6, .int .i64 mm, .int .i64 0, .string ⟨#[]⟩, .slice none 0 0, .slice none 0 0, .slice none 0 0] 28)) := hb.alloc _
    have HBc := Lib.hid (box_alloc w4 #[.int .i64 6, .int .i64 mm, .int .i64 0, .string ⟨#[]⟩, .slice none 0 0, .slice none 0 0, .slice none 0 0] 28)
    replace HBa := Lib.hid (HBa.out.later hl4); replace HBb := Lib.hid (HBb.out.later hl4)
    replace HZ := Lib.hid (HZ.out.later hl4); replace HY := Lib.hid (HY.out.later hl4); replace HL := Lib.hid (HL.out.trans hl4)
    have hbadA : ∀ W', Ats W' anyB (encV (errD mm)) [.int .i64 6, .int .i64 mm, .int .i64 0, .string ⟨#[]⟩, .slice none 0 0, .slice none 0 0, .slice none 0 0] := fun W' => leaf_ats W' (by unfold Between64; omega) (by unfold Between64; omega) (by unfold Between64; omega) (by decide)
    have hcb : (errD mm).cost ≤ 1099511627776 := by unfold errD; rw [cost_leaf]; decide
    have hC5 := fun W' (hW : Later (w4.alloc (.cells #[.int .i64 6, .int .i64 mm, .int .i64 0, .string ⟨#[]⟩, .slice none 0 0, .slice none 0 0, .slice none 0 0] 28)) W') => implApplyErr (op : Int) (errD mm) d' hcb HM'.out mm (first_bad d' hm1 hm8) W' anyB anyB _ _ (hbadA W') (HY.out.later hW)
    have hC6 := fun W' (hW : Later (w4.alloc (.cells #[.int .i64 6, .int .i64 mm, .int .i64 0, .string ⟨#[]⟩, .slice none 0 0, .slice none 0 0, .slice none 0 0] 28)) W') => implApplyErr (op : Int) d (errD mm) HM.out hcb m2 (by rw [hm2]; exact first_or d hm1 hm8) W' anyB anyB _ _ (HZ.out.later hW) (hbadA W')
    have hC7 := fun W' (hW : Later (w4.alloc (.cells #[.int .i64 6, .int .i64 mm, .int .i64 0, .string ⟨#[]⟩, .slice none 0 0, .slice none 0 0, .slice none 0 0] 28)) W') => specApplyErr (op : Int) d (errD mm) HM.out hcb m2 (by rw [hm2]; exact first_or d hm1 hm8) W' anyB anyB _ _ (HZ.out.later hW) (hbadA W')
    have hC8 := fun (K : Vl) W' cs cs' (a : Ats W' anyB (encV K) cs) (b : Ats W' anyB (encV K) cs') => specEqualValue K K W' anyB anyB cs cs' a b
    simp only [vl_same_self] at hC8
    have hC9 := fun W' (hW : Later (w4.alloc (.cells #[.int .i64 6, .int .i64 mm, .int .i64 0, .string ⟨#[]⟩, .slice none 0 0, .slice none 0 0, .slice none 0 0] 28)) W') => specValid d HM.out W' anyB _ (HZ.out.later hW)
    have H5 := Lib.hid hC5; have H6 := Lib.hid hC6; have H7 := Lib.hid hC7; have H8 := Lib.hid hC8; have H9 := Lib.hid hC9; have HBAD := Lib.hid hbadA
    have HM2 := Lib.hid hm2; have HR2 := Lib.hid hr2; have HM1 := Lib.hid hm1; have HM8 := Lib.hid hm8
    clear hC5 hC6 hC7 hC8 hC9 hbadA hcb hb hl4 hm2 hr2 hm1 hm8 HM HM' HZ HY
    obtain ⟨c0, c1, c2, c3, c4, c5, c6⟩ := Held7.of HBc.out
    obtain ⟨b0, b1, b2, b3, b4, b5, b6⟩ := Held7.of HBb.out
    go_wp2_with fail
    refine (H5.out _ (Later.rfl' _)).mono ?_; rintro e w5 ⟨⟨e0, e1, e2, e3, E1, e4, e7, E2, e5, e8, E3, e6, e9, rfl, he⟩, hb⟩
    clear c0 c1 c2 c3 c4 c5 c6 b0 b1 b2 b3 b4 b5 b6 H5
    have hlb : Later (w4.alloc (.cells #[.int .i64 6, .int .i64 mm, .int .i64 0, .string ⟨#[]⟩, .slice none 0 0, .slice none 0 0, .slice none 0 0] 28)) (w5.alloc (.cells #[.int .i64 e0, .int .i64 e1, .int .i64 e2, .string e3, .slice E1 e4 e7, .slice E2 e5 e8, .slice E3 e6 e9] 28)) := hb.alloc _
    have HE := Lib.hid (fun W' (hW : Later (w5.alloc (.cells #[.int .i64 e0, .int .i64 e1, .int .i64 e2, .string e3, .slice E1 e4 e7, .slice E2 e5 e8, .slice E3 e6 e9] 28)) W') => he W' (hlb.trans hW))
    have HBe := Lib.hid (box_alloc w5 #[.int .i64 e0, .int .i64 e1, .int .i64 e2, .string e3, .slice E1 e4 e7, .slice E2 e5 e8, .slice E3 e6 e9] 28)
    replace HBa := Lib.hid (HBa.out.later hlb); replace HBc := Lib.hid (HBc.out.later hlb); replace HL := Lib.hid (HL.out.trans hlb)
    have HLB := Lib.hid hlb
    clear he hb hlb HBb
    obtain ⟨a0, a1, a2, a3, a4, a5, a6⟩ := Held7.of HBa.out
    obtain ⟨c0, c1, c2, c3, c4, c5, c6⟩ := Held7.of HBc.out
    go_wp2_with fail
    refine (H6.out _ HLB.out).mono ?_; rintro e w6 ⟨⟨f0, f1, f2, f3, F1, f4, f7, F2, f5, f8, F3, f6, f9, rfl, hf⟩, hb⟩
    clear a0 a1 a2 a3 a4 a5 a6 c0 c1 c2 c3 c4 c5 c6 H6
    have hky := ats_kn (hf w6 hb)
    have hlb : Later (w5.alloc (.cells #[.int .i64 e0, .int .i64 e1, .int .i64 e2, .string e3, .slice E1 e4 e7, .slice E2 e5 e8, .slice E3 e6 e9] 28)) (w6.alloc (.cells #[.int .i64 f0, .int .i64 f1, .int .i64 f2, .string f3, .slice F1 f4 f7, .slice F2 f5 f8, .slice F3 f6 f9] 28)) := hb.alloc _
    have HF := Lib.hid (fun W' (hW : Later (w6.alloc (.cells #[.int .i64 f0, .int .i64 f1, .int .i64 f2, .string f3, .slice F1 f4 f7, .slice F2 f5 f8, .slice F3 f6 f9] 28)) W') => hf W' (hlb.trans hW))
    have HBf := Lib.hid (box_alloc w6 #[.int .i64 f0, .int .i64 f1, .int .i64 f2, .string f3, .slice F1 f4 f7, .slice F2 f5 f8, .slice F3 f6 f9] 28)
    replace HBa := Lib.hid (HBa.out.later hlb); replace HBc := Lib.hid (HBc.out.later hlb); replace HBe := Lib.hid (HBe.out.later hlb); replace HL := Lib.hid (HL.out.trans hlb)
    replace HLB := Lib.hid (HLB.out.trans hlb)
    replace HE := Lib.hid (fun W' (hW : Later (w6.alloc (.cells #[.int .i64 f0, .int .i64 f1, .int .i64 f2, .string f3, .slice F1 f4 f7, .slice F2 f5 f8, .slice F3 f6 f9] 28)) W') => HE.out W' (hlb.trans hW))
    obtain rfl : (6 : Int) = f0 := hky.1
    clear hf hb hlb hky
    obtain ⟨p0, p1, p2, p3, p4, p5, p6⟩ := Held7.of HBe.out
    obtain ⟨c0, c1, c2, c3, c4, c5, c6⟩ := Held7.of HBc.out
    go_wp2_with fail
    refine (H8.out _ _ _ _ (HE.out _ (Later.rfl' _)) (HBAD.out _)).mono ?_; rintro e w7 ⟨rfl, hb⟩
    clear p0 p1 p2 p3 p4 p5 p6 c0 c1 c2 c3 c4 c5 c6
    replace HBa := Lib.hid (HBa.out.later hb); replace HBc := Lib.hid (HBc.out.later hb); replace HBf := Lib.hid (HBf.out.later hb); replace HL := Lib.hid (HL.out.trans hb); replace HLB := Lib.hid (HLB.out.trans hb)
    replace HF := Lib.hid (fun W' (hW : Later w7 W') => HF.out W' (hb.trans hW))
    clear hb HBe HE
    obtain ⟨a0, a1, a2, a3, a4, a5, a6⟩ := Held7.of HBa.out
    obtain ⟨b, hb0⟩ : ∃ b, b = d.valid := ⟨_, rfl⟩
    rw [← hb0] at H9
    have HV := Lib.hid hb0
    clear hb0
    have C9 := H9.out _ HLB.out
    cases b with
    | true =>
      by_cases hz6 : z0 = 6
      · subst hz6
        go_wp2_with fail
        refine C9.mono ?_; rintro e w8 ⟨rfl, hb⟩
        clear a0 a1 a2 a3 a4 a5 a6 C9
        replace HBa := Lib.hid (HBa.out.later hb); replace HBc := Lib.hid (HBc.out.later hb); replace HBf := Lib.hid (HBf.out.later hb); replace HL := Lib.hid (HL.out.trans hb); replace HLB := Lib.hid (HLB.out.trans hb)
        replace HF := Lib.hid (fun W' (hW : Later w8 W') => HF.out W' (hb.trans hW))
        clear hb
        obtain ⟨a0, a1, a2, a3, a4, a5, a6⟩ := Held7.of HBa.out
        obtain ⟨c0, c1, c2, c3, c4, c5, c6⟩ := Held7.of HBc.out
        obtain ⟨p0, p1, p2, p3, p4, p5, p6⟩ := Held7.of HBf.out
        go_wp2_with fail
        go_region_held3 (fun w' => (w'.cell? ⟨w2.heap.size, 0, none⟩ = some (.int .i64 6) ∧ w'.cell? ⟨w2.heap.size, 1, none⟩ = some (.int .i64 z1) ∧ w'.cell? ⟨w2.heap.size, 2, none⟩ = some (.int .i64 z2) ∧ w'.cell? ⟨w2.heap.size, 3, none⟩ = some (.string z3) ∧ w'.cell? ⟨w2.heap.size, 4, none⟩ = some (.slice A1 z4 z7) ∧ w'.cell? ⟨w2.heap.size, 5, none⟩ = some (.slice A2 z5 z8) ∧ w'.cell? ⟨w2.heap.size, 6, none⟩ = some (.slice A3 z6 z9)) ∧ (w'.cell? ⟨w4.heap.size, 0, none⟩ = some (.int .i64 6) ∧ w'.cell? ⟨w4.heap.size, 1, none⟩ = some (.int .i64 mm) ∧ w'.cell? ⟨w4.heap.size, 2, none⟩ = some (.int .i64 0) ∧ w'.cell? ⟨w4.heap.size, 3, none⟩ = some (.string ⟨#[]⟩) ∧ w'.cell? ⟨w4.heap.size, 4, none⟩ = some (.slice none 0 0) ∧ w'.cell? ⟨w4.heap.size, 5, none⟩ = some (.slice none 0 0) ∧ w'.cell? ⟨w4.heap.size, 6, none⟩ = some (.slice none 0 0)) ∧ (w'.cell? ⟨w6.heap.size, 0, none⟩ = some (.int .i64 6) ∧ w'.cell? ⟨w6.heap.size, 1, none⟩ = some (.int .i64 f1) ∧ w'.cell? ⟨w6.heap.size, 2, none⟩ = some (.int .i64 f2) ∧ w'.cell? ⟨w6.heap.size, 3, none⟩ = some (.string f3) ∧ w'.cell? ⟨w6.heap.size, 4, none⟩ = some (.slice F1 f4 f7) ∧ w'.cell? ⟨w6.heap.size, 5, none⟩ = some (.slice F2 f5 f8) ∧ w'.cell? ⟨w6.heap.size, 6, none⟩ = some (.slice F3 f6 f9)))
          (first | with_reducible exact ⟨Held7.drew (Held7.of HBa.out), Held7.drew (Held7.of HBc.out), Held7.drew (Held7.of HBf.out)⟩ | with_reducible exact ⟨Held7.later hb4 (Held7.drew (Held7.of HBa.out)), Held7.later hb4 (Held7.drew (Held7.of HBc.out)), Held7.later hb4 (Held7.drew (Held7.of HBf.out))⟩ | with_reducible exact ⟨Held7.later hb5 (Held7.later hb4 (Held7.drew (Held7.of HBa.out))), Held7.later hb5 (Held7.later hb4 (Held7.drew (Held7.of HBc.out))), Held7.later hb5 (Held7.later hb4 (Held7.drew (Held7.of HBf.out)))⟩)
          (first | (go_at_call 29; refine (H7.out _ (HLB.out.trans (Later.rfl' _).drew)).mono ?_; rintro r w9 ⟨⟨x0, x1, x2, x3, C1, x4, x7, C2, x5, x8, C3, x6, x9, rfl, hx⟩, hb4⟩; have HX := Lib.hid hx; clear hx) | (go_at_call 15; refine (H8.out _ _ _ _ (HF.out _ ((Later.rfl' _).drew.trans hb4)) (HX.out _ hb4)).mono ?_; rintro r w10 ⟨rfl, hb5⟩))
        all_goals
          (rename_i hHL; clear hHL
           go_wp2_with fail
           go_ret
           exact ⟨rfl, HL.out.trans ((Later.rfl' _).drew.trans (hb4.trans hb5))⟩)
      · have ez : (z0 == 6) = false := by simpa using hz6
        have ez' : (z0 != 6) = true := by simpa using hz6
        have hmm : m2 = mm := by rw [HM2.out]; exact orErr_good HV.out.symm (by rw [HKZ.out]; exact hz6)
        subst hmm
        clear hz6
        go_wp2_with fail
        refine C9.mono ?_; rintro e w8 ⟨rfl, hb⟩
        clear a0 a1 a2 a3 a4 a5 a6 C9
        replace HBa := Lib.hid (HBa.out.later hb); replace HBc := Lib.hid (HBc.out.later hb); replace HBf := Lib.hid (HBf.out.later hb); replace HL := Lib.hid (HL.out.trans hb)
        replace HF := Lib.hid (fun W' (hW : Later w8 W') => HF.out W' (hb.trans hW))
        clear hb
        obtain ⟨a0, a1, a2, a3, a4, a5, a6⟩ := Held7.of HBa.out
        obtain ⟨p0, p1, p2, p3, p4, p5, p6⟩ := Held7.of HBf.out
        obtain ⟨c0, c1, c2, c3, c4, c5, c6⟩ := Held7.of HBc.out
        go_wp2_with fail
        refine (H8.out _ _ _ _ (HF.out _ (Later.rfl' _)) (HBAD.out _)).mono ?_; rintro e w9 ⟨rfl, hb⟩
        go_wp2_with fail
        go_ret
        exact ⟨rfl, HL.out.trans hb⟩
    | false =>
      go_wp2_with fail
      refine C9.mono ?_; rintro e w8 ⟨rfl, hb⟩
      clear a0 a1 a2 a3 a4 a5 a6 C9
      replace HBa := Lib.hid (HBa.out.later hb); replace HBc := Lib.hid (HBc.out.later hb); replace HBf := Lib.hid (HBf.out.later hb); replace HL := Lib.hid (HL.out.trans hb); replace HLB := Lib.hid (HLB.out.trans hb)
      replace HF := Lib.hid (fun W' (hW : Later w8 W') => HF.out W' (hb.trans hW))
      clear hb
      obtain ⟨a0, a1, a2, a3, a4, a5, a6⟩ := Held7.of HBa.out
      obtain ⟨c0, c1, c2, c3, c4, c5, c6⟩ := Held7.of HBc.out
      obtain ⟨p0, p1, p2, p3, p4, p5, p6⟩ := Held7.of HBf.out
      go_wp2_with fail
      go_region_held3 (fun w' => (w'.cell? ⟨w2.heap.size, 0, none⟩ = some (.int .i64 z0) ∧ w'.cell? ⟨w2.heap.size, 1, none⟩ = some (.int .i64 z1) ∧ w'.cell? ⟨w2.heap.size, 2, none⟩ = some (.int .i64 z2) ∧ w'.cell? ⟨w2.heap.size, 3, none⟩ = some (.string z3) ∧ w'.cell? ⟨w2.heap.size, 4, none⟩ = some (.slice A1 z4 z7) ∧ w'.cell? ⟨w2.heap.size, 5, none⟩ = some (.slice A2 z5 z8) ∧ w'.cell? ⟨w2.heap.size, 6, none⟩ = some (.slice A3 z6 z9)) ∧ (w'.cell? ⟨w4.heap.size, 0, none⟩ = some (.int .i64 6) ∧ w'.cell? ⟨w4.heap.size, 1, none⟩ = some (.int .i64 mm) ∧ w'.cell? ⟨w4.heap.size, 2, none⟩ = some (.int .i64 0) ∧ w'.cell? ⟨w4.heap.size, 3, none⟩ = some (.string ⟨#[]⟩) ∧ w'.cell? ⟨w4.heap.size, 4, none⟩ = some (.slice none 0 0) ∧ w'.cell? ⟨w4.heap.size, 5, none⟩ = some (.slice none 0 0) ∧ w'.cell? ⟨w4.heap.size, 6, none⟩ = some (.slice none 0 0)) ∧ (w'.cell? ⟨w6.heap.size, 0, none⟩ = some (.int .i64 6) ∧ w'.cell? ⟨w6.heap.size, 1, none⟩ = some (.int .i64 f1) ∧ w'.cell? ⟨w6.heap.size, 2, none⟩ = some (.int .i64 f2) ∧ w'.cell? ⟨w6.heap.size, 3, none⟩ = some (.string f3) ∧ w'.cell? ⟨w6.heap.size, 4, none⟩ = some (.slice F1 f4 f7) ∧ w'.cell? ⟨w6.heap.size, 5, none⟩ = some (.slice F2 f5 f8) ∧ w'.cell? ⟨w6.heap.size, 6, none⟩ = some (.slice F3 f6 f9)))
        (first | with_reducible exact ⟨Held7.drew (Held7.of HBa.out), Held7.drew (Held7.of HBc.out), Held7.drew (Held7.of HBf.out)⟩ | with_reducible exact ⟨Held7.later hb4 (Held7.drew (Held7.of HBa.out)), Held7.later hb4 (Held7.drew (Held7.of HBc.out)), Held7.later hb4 (Held7.drew (Held7.of HBf.out))⟩ | with_reducible exact ⟨Held7.later hb5 (Held7.later hb4 (Held7.drew (Held7.of HBa.out))), Held7.later hb5 (Held7.later hb4 (Held7.drew (Held7.of HBc.out))), Held7.later hb5 (Held7.later hb4 (Held7.drew (Held7.of HBf.out)))⟩)
        (first | (go_at_call 29; refine (H7.out _ (HLB.out.trans (Later.rfl' _).drew)).mono ?_; rintro r w9 ⟨⟨x0, x1, x2, x3, C1, x4, x7, C2, x5, x8, C3, x6, x9, rfl, hx⟩, hb4⟩; have HX := Lib.hid hx; clear hx) | (go_at_call 15; refine (H8.out _ _ _ _ (HF.out _ ((Later.rfl' _).drew.trans hb4)) (HX.out _ hb4)).mono ?_; rintro r w10 ⟨rfl, hb5⟩))
      all_goals
        (rename_i hHL; clear hHL
         go_wp2_with fail
         go_ret
         exact ⟨rfl, HL.out.trans ((Later.rfl' _).drew.trans (hb4.trans hb5))⟩)

end Go.Proofs.Ytghemlokpfipoaa
