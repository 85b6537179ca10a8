/-
  The first error among values: l5First, operandError: the walks.
-/
import Derived.Test.YtghemlokpfipoaaYMN6
import Derived.Test.YtghemlokpfipoaaYV8
namespace Go.Proofs.Ytghemlokpfipoaa
open Go.ChangeShapes Go.WideShapes Go.ChangeAt Go.RowKit
set_option linter.unusedVariables false
set_option linter.unusedSimpArgs false
set_option maxRecDepth 100000

/-- The code of a value's error, as an operand. -/
def errOf (d : Vl) : Option Int := if d.valid = true then (if d.kind = 6 then some d.n else none) else some 4
def firstE (l : List Vl) : Option Int := l.findSome? errOf
theorem first_none {l : List Vl} (h : ∀ k, (hk : k < l.length) → errOf l[k] = none) : firstE l = none := by
  unfold firstE
  rw [List.findSome?_eq_none_iff]
  intro x hx
  obtain ⟨k, hk, rfl⟩ := List.getElem_of_mem hx
  exact h k hk
theorem first_hit {l : List Vl} {j : Nat} {n : Int} (hj : j < l.length) (h : ∀ k, (hk : k < l.length) → k < j → errOf l[k] = none) (hn : errOf l[j] = some n) : firstE l = some n := by
  unfold firstE
  have e : l = l.take j ++ l[j] :: l.drop (j + 1) := by rw [List.getElem_cons_drop, List.take_append_drop]
  rw [e, List.findSome?_append]
  have h0 : (l.take j).findSome? errOf = none := by
    rw [List.findSome?_eq_none_iff]
    intro x hx
    obtain ⟨k, hk, rfl⟩ := List.getElem_of_mem hx
    rw [List.length_take] at hk
    rw [List.getElem_take]
    exact h k (by omega) (by omega)
  rw [h0, List.findSome?_cons, hn]
  rfl
theorem ats_kn {w : World} {S : Nat → Prop} {d : Vl} {y0 y1 : Int} {cs : List Value} (h : Ats w S (encV d) (.int .i64 y0 :: .int .i64 y1 :: cs)) : d.kind = y0 ∧ d.n = y1 := by
  obtain ⟨xk, xn, xs, xt, xl, xc, xr, rfl⟩ := Vl.shape d
  obtain ⟨_, _, _, _, _, _, ee, _⟩ := h.val
  simp only [List.cons.injEq, Value.int.injEq, true_and] at ee
  exact ⟨ee.1.symm, ee.2.1.symm⟩
theorem empty_toList : (⟨#[]⟩ : ByteArray).toList = [] := by rw [ByteArray.toList_eq]
theorem valid_err {d : Vl} (hv : d.valid = true) (hk : d.kind = 6) : d = leafD 6 d.n 0 ⟨#[]⟩ := by
  obtain ⟨k, n, s, t, l, c, r, rfl⟩ := Vl.shape d
  simp only [Vl.kind] at hk
  subst hk
  rw [Vl.valid] at hv
  simp at hv
  obtain ⟨⟨h1, h2, h3⟩, h4, h5, _⟩ := hv
  subst h1; subst h2; subst h3; subst h4
  have : t = ⟨#[]⟩ := by
    have h6 : t.toList = (⟨#[]⟩ : ByteArray).toList := by rw [h5, empty_toList]
    exact toList_inj.1 h6
  subst this
  rfl
def firstV : Option Int → Value | some n => leafA 6 n 0 ⟨#[]⟩ | none => leafA 0 0 0 ⟨#[]⟩
def CellsAt (W : World) (v : Value) (o : Nat) (ys : List Value) : Prop := ∃ b off m c, v = .slice (some ⟨b, off, none⟩) m c ∧ ys.length = 7 ∧ ∀ i, i < 7 → W.cell? ⟨b, off + o + i, none⟩ = ys[i]?
/-- What operandError hands back beside 'is there one'. -/
def ErrRes (W : World) (v : Value) (l : List Vl) (a : Value) : Option Int → Prop
  | none => a = leafA 0 0 0 ⟨#[]⟩
  | some n => a = leafA 6 n 0 ⟨#[]⟩ ∨ ∃ j, ∃ hj : j < l.length, ∃ ys : List Value, a = .agg ys.toArray ∧ l[j] = leafD 6 n 0 ⟨#[]⟩ ∧ CellsAt W v (j * 7) ys


set_option maxHeartbeats 2000000 in
theorem specFirst (l : List Vl) (hcost : ∀ x, x ∈ l → x.cost ≤ 1099511627776) (W : World) (S : Nat → Prop) (v : Value) (h : SlAt W S 7 encV l v) : Calls Try.prog 74 #[v] W fun r w' => (r = .returned (.tuple #[firstV (firstE l), .bool (firstE l).isSome])) ∧ Later W w' := by
  obtain ⟨A, c, rfl, hlc, hcm⟩ := sl_parts h
  have HE := Lib.hid h; have HM := Lib.hid hcost
  clear h hcost
  go_enter Try.func74, Try.ntmps74
  go_wp2_with fail
  go_loopw [4] (fun i wr => ∃ j : Nat, j ≤ l.length ∧ i = .int .i64 j ∧ (∀ k, (hk : k < l.length) → k < j → errOf l[k] = none) ∧ Later (W.alloc (.cells #[.int .i64 0, .int .i64 0, .int .i64 0, .string ⟨#[]⟩, .slice none 0 0, .slice none 0 0, .slice none 0 0] 28)) wr) (fun i _ => l.length - (intOf i).toNat)
  case atStart => exact ⟨0, Nat.zero_le _, rfl, fun k _ h => absurd h (by omega), Later.rfl' _⟩
  case round =>
    obtain ⟨j, hj, rfl, hall, hw⟩ := hrel
    have RB := Lib.hid ((box_alloc W _ _).later hw)
    have HA := Lib.hid hall
    have HW := Lib.hid hw
    have HLW := Lib.hid (((Later.rfl' W).alloc _).trans hw)
    have hz0 := RB.out.lt
    clear hall hw
    by_cases hlt : j < l.length
    · obtain ⟨b, off, y0, y1, y2, y3, B1, n1, d1, B2, n2, d2, B3, n3, d3, rfl, hb, _, hx, e0, e1, e2, e3, e4, e5, e6⟩ := HE.out.valAt hlt
      have C := fun W' (hW' : Later wr W') => specValid l[j] (HM.out _ (List.getElem_mem hlt)) W' S _ (hx.later (HLW.out.trans hW'))
      have hkn := ats_kn hx
      have HCE : Hid (CellsAt W (.slice (some ⟨b, off, none⟩) l.length c) (j * 7) [.int .i64 y0, .int .i64 y1, .int .i64 y2, .string y3, .slice B1 n1 d1, .slice B2 n2 d2, .slice B3 n3 d3]) := ⟨b, off, _, _, rfl, rfl, fun i hi => by
        match i, hi with
        | 0, _ => exact e0
        | 1, _ => exact e1
        | 2, _ => exact e2
        | 3, _ => exact e3
        | 4, _ => exact e4
        | 5, _ => exact e5
        | 6, _ => exact e6⟩
      have hki : (j : Int) < (l.length : Int) := by omega
      have hbw : b < wr.heap.size := Nat.lt_of_lt_of_le hb HLW.out.size
      have g0 := kept_cell HLW.out e0
      have g1 := kept_cell HLW.out e1
      have g2 := kept_cell HLW.out e2
      have g3 := kept_cell HLW.out e3
      have g4 := kept_cell HLW.out e4
      have g5 := kept_cell HLW.out e5
      have g6 := kept_cell HLW.out e6
      obtain ⟨q, hq⟩ : ∃ q, q = l[j].valid := ⟨_, rfl⟩
      simp only [← hq] at C
      have HQ := Lib.hid hq
      have HKN := Lib.hid hkn
      have HC := Lib.hid C
      clear hx C hq hkn e0 e1 e2 e3 e4 e5 e6
      cases q with
      | false =>
        have HF : Hid (firstE l = some 4) := first_hit hlt HA.out (by unfold errOf; rw [← HQ.out]; rfl)
        go_wp2_with fail
        refine (HC.out _ (Later.rfl' _)).mono ?_; rintro e w1 ⟨rfl, hb1⟩
        have HB1 := Lib.hid hb1
        clear g0 g1 g2 g3 g4 g5 g6 hb1
        go_wp2_with fail
        refine (specErrorValue 4 _).mono ?_; rintro e w2 ⟨rfl, hb2⟩
        unfold leafA
        have R := (RB.out.later (HB1.out)).later hb2
        have L := Lib.hid (HLW.out.trans ((HB1.out).trans hb2))
        clear hb2
        have r0 := R.cell (j := 0) rfl
        have f0 := R.free 0
        have r1 := R.cell (j := 1) rfl
        have f1 := R.free 1
        have r2 := R.cell (j := 2) rfl
        have f2 := R.free 2
        have r3 := R.cell (j := 3) rfl
        have f3 := R.free 3
        have r4 := R.cell (j := 4) rfl
        have f4 := R.free 4
        have r5 := R.cell (j := 5) rfl
        have f5 := R.free 5
        have r6 := R.cell (j := 6) rfl
        have f6 := R.free 6
        have rz := R.lt
        clear R
        go_wp2_with fail
        exact bodyPost_ret (v := .tuple #[leafA 6 4 0 ⟨#[]⟩, .bool true]) (by simp [results, Try.results74, go_sem, leafA, r0, r1, r2, r3, r4, r5, r6]) rfl ⟨by rw [HF.out]; rfl, later_setFrom (Nat.le_refl _) [.int .i64 6, .int .i64 4, .int .i64 0, .string ⟨#[]⟩, .slice none 0 0, .slice none 0 0, .slice none 0 0] _ 0 L.out⟩
      | true =>
        by_cases hk6 : y0 = 6
        · subst hk6
          have HLF : Hid (l[j] = leafD 6 y1 0 ⟨#[]⟩) := by have h1 := valid_err HQ.out.symm HKN.out.1; rw [HKN.out.2] at h1; exact h1
          have HF : Hid (firstE l = some y1) := first_hit hlt HA.out (by unfold errOf; rw [← HQ.out, HKN.out.1, HKN.out.2]; rfl)
          go_wp2_with fail
          refine (HC.out _ (Later.rfl' _)).mono ?_; rintro e w1 ⟨rfl, hb1⟩
          have k0 := kept_cell hb1 g0
          have k1 := kept_cell hb1 g1
          have HB1 := Lib.hid hb1
          clear g0 g1 g2 g3 g4 g5 g6 hb1
          go_wp2_with fail
          refine (specErrorValue y1 _).mono ?_; rintro e w2 ⟨rfl, hb2⟩
          unfold leafA
          have R := ((RB.out.later HB1.out).later hb2)
          have L := Lib.hid (HLW.out.trans (HB1.out.trans hb2))
          clear hb2 k0 k1
          have r0 := R.cell (j := 0) rfl
          have f0 := R.free 0
          have r1 := R.cell (j := 1) rfl
          have f1 := R.free 1
          have r2 := R.cell (j := 2) rfl
          have f2 := R.free 2
          have r3 := R.cell (j := 3) rfl
          have f3 := R.free 3
          have r4 := R.cell (j := 4) rfl
          have f4 := R.free 4
          have r5 := R.cell (j := 5) rfl
          have f5 := R.free 5
          have r6 := R.cell (j := 6) rfl
          have f6 := R.free 6
          have rz := R.lt
          clear R
          go_wp2_with fail
          exact bodyPost_ret (v := .tuple #[leafA 6 y1 0 ⟨#[]⟩, .bool true]) (by simp [results, Try.results74, go_sem, leafA, r0, r1, r2, r3, r4, r5, r6]) rfl ⟨by rw [HF.out]; rfl, later_setFrom (Nat.le_refl _) [.int .i64 6, .int .i64 y1, .int .i64 0, .string ⟨#[]⟩, .slice none 0 0, .slice none 0 0, .slice none 0 0] _ 0 L.out⟩
        · have HN : Hid (errOf l[j] = none) := by unfold Hid errOf; rw [← HQ.out, HKN.out.1]; simp [hk6]
          have hk6' : (y0 == 6) = false := by simpa using hk6
          clear hk6
          go_wp2_with fail
          refine (HC.out _ (Later.rfl' _)).mono ?_; rintro e w1 ⟨rfl, hb1⟩
          have k0 := kept_cell hb1 g0
          have HB1 := Lib.hid hb1
          clear g0 g1 g2 g3 g4 g5 g6 hb1
          go_wp2_with fail
          go_roundw
          case rel => exact ⟨j + 1, by omega, by go_num, fun k hk hkj => if e : k = j then by subst e; exact HN.out else HA.out k hk (by omega), HW.out.trans HB1.out⟩
          case measure => simp [intOf]; omega
    · have HF : Hid (firstE l = none) := first_none fun k hk => HA.out k hk (by omega)
      have R := RB.out
      have L := HLW
      have r0 := R.cell (j := 0) rfl
      have f0 := R.free 0
      have r1 := R.cell (j := 1) rfl
      have f1 := R.free 1
      have r2 := R.cell (j := 2) rfl
      have f2 := R.free 2
      have r3 := R.cell (j := 3) rfl
      have f3 := R.free 3
      have r4 := R.cell (j := 4) rfl
      have f4 := R.free 4
      have r5 := R.cell (j := 5) rfl
      have f5 := R.free 5
      have r6 := R.cell (j := 6) rfl
      have f6 := R.free 6
      have rz := R.lt
      clear R
      go_wp2_with fail
      exact bodyPost_ret (v := .tuple #[leafA 0 0 0 ⟨#[]⟩, .bool false]) (by simp [results, Try.results74, go_sem, leafA, r0, r1, r2, r3, r4, r5, r6]) rfl ⟨by rw [HF.out]; rfl, later_setFrom (Nat.le_refl _) [.int .i64 0, .int .i64 0, .int .i64 0, .string ⟨#[]⟩, .slice none 0 0, .slice none 0 0, .slice none 0 0] _ 0 L.out⟩

set_option maxHeartbeats 2000000 in
theorem implFirst (l : List Vl) (hcost : ∀ x, x ∈ l → x.cost ≤ 1099511627776) (W : World) (S : Nat → Prop) (v : Value) (h : SlAt W S 7 encV l v) : Calls Try.prog 72 #[v] W fun r w' => (∃ a, r = .returned (.tuple #[a, .bool (firstE l).isSome]) ∧ ErrRes W v l a (firstE l)) ∧ Later W w' := by
  obtain ⟨A, c, rfl, hlc, hcm⟩ := sl_parts h
  have HE := Lib.hid h; have HM := Lib.hid hcost
  clear h hcost
  go_enter Try.func72, Try.ntmps72
  go_wp2_with fail
  go_loopw [8] (fun i wr => ∃ j : Nat, j ≤ l.length ∧ i = .int .i64 j ∧ (∀ k, (hk : k < l.length) → k < j → errOf l[k] = none) ∧ Later (W.alloc (.cells #[.int .i64 0, .int .i64 0, .int .i64 0, .string ⟨#[]⟩, .slice none 0 0, .slice none 0 0, .slice none 0 0] 28)) wr) (fun i _ => l.length - (intOf i).toNat)
  case atStart => exact ⟨0, Nat.zero_le _, rfl, fun k _ h => absurd h (by omega), Later.rfl' _⟩
  case round =>
    obtain ⟨j, hj, rfl, hall, hw⟩ := hrel
    have RB := Lib.hid ((box_alloc W _ _).later hw)
    have HA := Lib.hid hall
    have HW := Lib.hid hw
    have HLW := Lib.hid (((Later.rfl' W).alloc _).trans hw)
    have hz0 := RB.out.lt
    clear hall hw
    by_cases hlt : j < l.length
    · obtain ⟨b, off, y0, y1, y2, y3, B1, n1, d1, B2, n2, d2, B3, n3, d3, rfl, hb, _, hx, e0, e1, e2, e3, e4, e5, e6⟩ := HE.out.valAt hlt
      have C := fun W' (hW' : Later wr W') => implValid l[j] (HM.out _ (List.getElem_mem hlt)) W' S _ (hx.later (HLW.out.trans hW'))
      have hkn := ats_kn hx
      have HCE : Hid (CellsAt W (.slice (some ⟨b, off, none⟩) l.length c) (j * 7) [.int .i64 y0, .int .i64 y1, .int .i64 y2, .string y3, .slice B1 n1 d1, .slice B2 n2 d2, .slice B3 n3 d3]) := ⟨b, off, _, _, rfl, rfl, fun i hi => by
        match i, hi with
        | 0, _ => exact e0
        | 1, _ => exact e1
        | 2, _ => exact e2
        | 3, _ => exact e3
        | 4, _ => exact e4
        | 5, _ => exact e5
        | 6, _ => exact e6⟩
      have hki : (j : Int) < (l.length : Int) := by omega
      have hbw : b < wr.heap.size := Nat.lt_of_lt_of_le hb HLW.out.size
      have g0 := kept_cell HLW.out e0
      have g1 := kept_cell HLW.out e1
      have g2 := kept_cell HLW.out e2
      have g3 := kept_cell HLW.out e3
      have g4 := kept_cell HLW.out e4
      have g5 := kept_cell HLW.out e5
      have g6 := kept_cell HLW.out e6
      obtain ⟨q, hq⟩ : ∃ q, q = l[j].valid := ⟨_, rfl⟩
      simp only [← hq] at C
      have HQ := Lib.hid hq
      have HKN := Lib.hid hkn
      have HC := Lib.hid C
      clear hx C hq hkn e0 e1 e2 e3 e4 e5 e6
      cases q with
      | false =>
        have HF : Hid (firstE l = some 4) := first_hit hlt HA.out (by unfold errOf; rw [← HQ.out]; rfl)
        go_wp2_with fail
        refine (HC.out _ ((Later.rfl' _).alloc _)).mono ?_; rintro e w1 ⟨rfl, hb1⟩
        have HB1 := Lib.hid hb1
        clear g0 g1 g2 g3 g4 g5 g6 hb1
        go_wp2_with fail
        refine (implErrorValue 4 _).mono ?_; rintro e w2 ⟨rfl, hb2⟩
        unfold leafA
        have R := (RB.out.later (((Later.rfl' _).alloc _).trans HB1.out)).later hb2
        have L := Lib.hid (HLW.out.trans ((((Later.rfl' _).alloc _).trans HB1.out).trans hb2))
        clear hb2
        have r0 := R.cell (j := 0) rfl
        have f0 := R.free 0
        have r1 := R.cell (j := 1) rfl
        have f1 := R.free 1
        have r2 := R.cell (j := 2) rfl
        have f2 := R.free 2
        have r3 := R.cell (j := 3) rfl
        have f3 := R.free 3
        have r4 := R.cell (j := 4) rfl
        have f4 := R.free 4
        have r5 := R.cell (j := 5) rfl
        have f5 := R.free 5
        have r6 := R.cell (j := 6) rfl
        have f6 := R.free 6
        have rz := R.lt
        clear R
        go_wp2_with fail
        exact bodyPost_ret (v := .tuple #[leafA 6 4 0 ⟨#[]⟩, .bool true]) (by simp [results, Try.results72, go_sem, leafA, r0, r1, r2, r3, r4, r5, r6]) rfl ⟨⟨_, by rw [HF.out]; rfl, by rw [HF.out]; exact .inl rfl⟩, later_setFrom (Nat.le_refl _) [.int .i64 6, .int .i64 4, .int .i64 0, .string ⟨#[]⟩, .slice none 0 0, .slice none 0 0, .slice none 0 0] _ 0 L.out⟩
      | true =>
        by_cases hk6 : y0 = 6
        · subst hk6
          have HLF : Hid (l[j] = leafD 6 y1 0 ⟨#[]⟩) := by have h1 := valid_err HQ.out.symm HKN.out.1; rw [HKN.out.2] at h1; exact h1
          have HF : Hid (firstE l = some y1) := first_hit hlt HA.out (by unfold errOf; rw [← HQ.out, HKN.out.1, HKN.out.2]; rfl)
          go_wp2_with fail
          refine (HC.out _ ((Later.rfl' _).alloc _)).mono ?_; rintro e w1 ⟨rfl, hb1⟩
          have X := (box_alloc wr _ _).later hb1
          have R := RB.out.later (((Later.rfl' _).alloc _).trans hb1)
          have L := Lib.hid (HLW.out.trans (((Later.rfl' _).alloc _).trans hb1))
          clear g0 g1 g2 g3 g4 g5 g6 hb1
          have x0 := X.cell (j := 0) rfl
          have x1 := X.cell (j := 1) rfl
          have x2 := X.cell (j := 2) rfl
          have x3 := X.cell (j := 3) rfl
          have x4 := X.cell (j := 4) rfl
          have x5 := X.cell (j := 5) rfl
          have x6 := X.cell (j := 6) rfl
          have xz := X.lt
          clear X
          have r0 := R.cell (j := 0) rfl
          have f0 := R.free 0
          have r1 := R.cell (j := 1) rfl
          have f1 := R.free 1
          have r2 := R.cell (j := 2) rfl
          have f2 := R.free 2
          have r3 := R.cell (j := 3) rfl
          have f3 := R.free 3
          have r4 := R.cell (j := 4) rfl
          have f4 := R.free 4
          have r5 := R.cell (j := 5) rfl
          have f5 := R.free 5
          have r6 := R.cell (j := 6) rfl
          have f6 := R.free 6
          have rz := R.lt
          clear R
          go_wp2_with fail
          exact bodyPost_ret (v := .tuple #[.agg #[.int .i64 6, .int .i64 y1, .int .i64 y2, .string y3, .slice B1 n1 d1, .slice B2 n2 d2, .slice B3 n3 d3], .bool true]) (by simp [results, Try.results72, go_sem, r0, r1, r2, r3, r4, r5, r6, x0, x1, x2, x3, x4, x5, x6]) rfl ⟨⟨_, by rw [HF.out]; rfl, by rw [HF.out]; exact .inr ⟨j, hlt, [.int .i64 6, .int .i64 y1, .int .i64 y2, .string y3, .slice B1 n1 d1, .slice B2 n2 d2, .slice B3 n3 d3], rfl, HLF.out, HCE.out⟩⟩, later_setFrom (Nat.le_refl _) [.int .i64 6, .int .i64 y1, .int .i64 y2, .string y3, .slice B1 n1 d1, .slice B2 n2 d2, .slice B3 n3 d3] _ 0 L.out⟩
        · have HN : Hid (errOf l[j] = none) := by unfold Hid errOf; rw [← HQ.out, HKN.out.1]; simp [hk6]
          have hk6' : (y0 == 6) = false := by simpa using hk6
          clear hk6
          go_wp2_with fail
          refine (HC.out _ ((Later.rfl' _).alloc _)).mono ?_; rintro e w1 ⟨rfl, hb1⟩
          have x0 := ((box_alloc wr _ _).later hb1).cell (j := 0) rfl
          have HB1 := Lib.hid (((Later.rfl' wr).alloc _).trans hb1)
          clear g0 g1 g2 g3 g4 g5 g6 hb1
          go_wp2_with fail
          go_roundw
          case rel => exact ⟨j + 1, by omega, by go_num, fun k hk hkj => if e : k = j then by subst e; exact HN.out else HA.out k hk (by omega), HW.out.trans HB1.out⟩
          case measure => simp [intOf]; omega
    · have HF : Hid (firstE l = none) := first_none fun k hk => HA.out k hk (by omega)
      have R := RB.out
      have L := HLW
      have r0 := R.cell (j := 0) rfl
      have f0 := R.free 0
      have r1 := R.cell (j := 1) rfl
      have f1 := R.free 1
      have r2 := R.cell (j := 2) rfl
      have f2 := R.free 2
      have r3 := R.cell (j := 3) rfl
      have f3 := R.free 3
      have r4 := R.cell (j := 4) rfl
      have f4 := R.free 4
      have r5 := R.cell (j := 5) rfl
      have f5 := R.free 5
      have r6 := R.cell (j := 6) rfl
      have f6 := R.free 6
      have rz := R.lt
      clear R
      go_wp2_with fail
      exact bodyPost_ret (v := .tuple #[leafA 0 0 0 ⟨#[]⟩, .bool false]) (by simp [results, Try.results72, go_sem, leafA, r0, r1, r2, r3, r4, r5, r6]) rfl ⟨⟨_, by rw [HF.out]; rfl, by rw [HF.out]; exact rfl⟩, later_setFrom (Nat.le_refl _) [.int .i64 0, .int .i64 0, .int .i64 0, .string ⟨#[]⟩, .slice none 0 0, .slice none 0 0, .slice none 0 0] _ 0 L.out⟩
end Go.Proofs.Ytghemlokpfipoaa
