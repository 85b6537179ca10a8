/-
  Rows that use an origin: RowsUsing: the walks.
-/
import Derived.Test.YtefhaochkfodnaaV2
import Derived.Test.YtefhaochkfodnaaW1
import Derived.Deep.QuietTactic
import Derived.BigQuiet
import Derived.Deep.RegionHeld3
namespace Go.Proofs.Ytefhaochkfodnaa
open Go.ChangeShapes Go.WideShapes Go.ChangeAt Go.RowKit
set_option linter.unusedVariables false
set_option linter.unusedSimpArgs false
set_option maxRecDepth 100000

def hasO (l : List Org) (o : Org) : Bool := l.any fun x => decide (x = o)
theorem hasO_true {l : List Org} {o : Org} {k : Nat} (hk : k < l.length) (h : l[k] = o) : hasO l o = true := by
  unfold hasO
  rw [List.any_eq_true]
  exact ⟨l[k], List.getElem_mem hk, by simp [h]⟩
theorem hasO_false {l : List Org} {o : Org} (h : ∀ k, (hk : k < l.length) → l[k] ≠ o) : hasO l o = false := by
  unfold hasO
  rw [List.any_eq_false]
  intro x hx
  obtain ⟨k, hk, rfl⟩ := List.getElem_of_mem hx
  simpa using h k hk
def rowsAt (r : List Rw) (o : Org) (k : Nat) : List Int := ((List.range k).filter (fun (i : Nat) => hasO (r.getD i ⟨[], []⟩).from_ o)).map (fun (i : Nat) => (i : Int))
theorem rowsAt_hit {r : List Rw} {o : Org} {k : Nat} (hk : k < r.length) (h : hasO r[k].from_ o = true) : rowsAt r o (k + 1) = rowsAt r o k ++ [(k : Int)] := by
  unfold rowsAt
  rw [List.range_succ, List.filter_append, List.map_append]
  simp [List.getD, hk, h]
theorem rowsAt_no {r : List Rw} {o : Org} {k : Nat} (hk : k < r.length) (h : hasO r[k].from_ o = false) : rowsAt r o (k + 1) = rowsAt r o k := by
  unfold rowsAt
  rw [List.range_succ, List.filter_append, List.map_append]
  simp [List.getD, hk, h]
theorem rowsAt_le (r : List Rw) (o : Org) (k : Nat) : (rowsAt r o k).length ≤ k := by
  unfold rowsAt
  rw [List.length_map]
  exact Nat.le_trans (List.length_filter_le _ _) (by rw [List.length_range]; exact Nat.le_refl _)
theorem rowsAt_mem {r : List Rw} {o : Org} {k : Nat} {x : Int} (h : x ∈ rowsAt r o k) : 0 ≤ x ∧ x < k := by
  unfold rowsAt at h
  obtain ⟨i, hi, rfl⟩ := List.mem_map.1 h
  have := List.mem_range.1 (List.mem_filter.1 hi).1
  omega
theorem flat_ints (l : List Int) : l.flatMap encI = l.map .int := by
  induction l with
  | nil => rfl
  | cons a l ih => rw [List.flatMap_cons, ih]; rfl
/-- A row of numbers of the call's own. -/
theorem own_ints {w : World} {base : Nat} {e : TypeId} {v : Value} {xs : List Int} {S : Nat → Prop} (h : w.ownsRow base e 1 v xs.length (xs.map (.int .i64))) (hf : ∀ x ∈ xs, Between64 x) (hS : ∀ g, v.ownBlock = some g → S g) : Own w S (.sl 1 xs.length (xs.flatMap encI)) v := by
  rw [flat_ints]
  refine Own.of_row noB h (by simp) (fun g hg => ⟨hS g hg, fun _ h => h⟩) (fun _ _ h => False.elim h) (fun _ _ _ _ h => False.elim h) (fun i d u hd hu => ?_)
  rw [List.getElem?_map] at hd hu
  obtain ⟨x, hx, rfl⟩ := Option.map_eq_some_iff.1 hd
  rw [hx] at hu
  simp at hu
  subst hu
  exact .int _ _ (hf x (List.mem_of_getElem? hx))


set_option maxHeartbeats 1000000 in
theorem specHasO (l : List Org) (o0 o1 : Int) (W : World) (S : Nat → Prop) (v : Value) (h : SlAt W S 2 encO l v) : Calls Try.prog 48 #[v, .agg #[.int .i64 o0, .int .i64 o1]] W fun r w' => r = .returned (.bool (hasO l (o0, o1))) ∧ Later W w' := by
  obtain ⟨A, c, rfl, hlc, hcm⟩ := sl_parts h
  have HE := Lib.hid h; clear h
  go_enter Try.func48, Try.ntmps48
  go_wp2_with fail
  go_loopw [5] (fun i wr => ∃ j : Nat, j ≤ l.length ∧ i = .int .i64 j ∧ (∀ k, (hk : k < l.length) → k < j → l[k] ≠ (o0, o1)) ∧ Later (W.alloc (.cells #[.int .i64 o0, .int .i64 o1] 37)) wr) (fun i _ => l.length - (intOf i).toNat)
  case atStart => exact ⟨0, Nat.zero_le _, rfl, fun k _ h => absurd h (by omega), Later.rfl' _⟩
  case round =>
    obtain ⟨j, hj, rfl, hall, hw⟩ := hrel
    have b0 := ((box_alloc W _ _).later hw).cell (j := 0) rfl
    have b1 := ((box_alloc W _ _).later hw).cell (j := 1) rfl
    have hz := ((box_alloc W _ _).later hw).lt
    have HA := Lib.hid hall
    by_cases hlt : j < l.length
    · obtain ⟨b, off, rfl, hb, _, e0, e1, _⟩ := (HE.out.later (((Later.rfl' _).alloc _).trans hw)).origAt hlt
      obtain ⟨⟨x0, x1⟩, hX⟩ : ∃ x, x = l[j] := ⟨_, rfl⟩
      rw [← hX] at e0 e1
      simp only at e0 e1
      have HX := Lib.hid hX
      have HW := Lib.hid hw
      have hki : (j : Int) < (l.length : Int) := by omega
      clear hX hw hall
      by_cases hq : x0 = o0
      · subst hq
        by_cases hq2 : x1 = o1
        · subst hq2
          have HV : Hid (hasO l (x0, x1) = true) := hasO_true hlt HX.out.symm
          go_wp2
          go_quiet (fail)
          go_wp2
          go_ret
          exact ⟨ret_bool HV.out.symm, ((Later.rfl' _).alloc _).trans (HW.out.trans (Later.drewN _ _))⟩
        · have hne : (x1 != o1) = true := by simpa using hq2
          have hne2 : (x1 == o1) = false := by simpa using hq2
          have HN : Hid (l[j] ≠ (x0, o1)) := by have := HX.out; rw [← this]; intro e; simp only [Prod.mk.injEq, true_and] at e; exact hq2 e
          clear hq2
          go_wp2
          go_quiet (fail)
          go_wp2
          go_roundw
          case rel => exact ⟨j + 1, by omega, by go_num, fun k hk hkj => if e : k = j then by subst e; exact HN.out else HA.out k hk (by omega), (HW.out.trans (Later.drewN _ _))⟩
          case measure => simp [intOf]; omega
      · have hne : (x0 != o0) = true := by simpa using hq
        have hne2 : (x0 == o0) = false := by simpa using hq
        have HN : Hid (l[j] ≠ (o0, o1)) := by have := HX.out; rw [← this]; intro e; simp only [Prod.mk.injEq] at e; exact hq e.1
        clear hq
        go_wp2
        go_quiet (fail)
        go_wp2
        go_roundw
        case rel => exact ⟨j + 1, by omega, by go_num, fun k hk hkj => if e : k = j then by subst e; exact HN.out else HA.out k hk (by omega), (HW.out.trans (Later.drewN _ _))⟩
        case measure => simp [intOf]; omega
    · have HV : Hid (hasO l (o0, o1) = false) := hasO_false fun k hk => HA.out k hk (by omega)
      clear hall
      go_wp2
      go_ret
      exact ⟨ret_bool HV.out.symm, ((Later.rfl' _).alloc _).trans hw⟩

set_option maxHeartbeats 1000000 in
theorem implHasO (l : List Org) (o0 o1 : Int) (W : World) (S : Nat → Prop) (v : Value) (h : SlAt W S 2 encO l v) : Calls Try.prog 50 #[v, .agg #[.int .i64 o0, .int .i64 o1]] W fun r w' => r = .returned (.bool (hasO l (o0, o1))) ∧ Later W w' := by
  obtain ⟨A, c, rfl, hlc, hcm⟩ := sl_parts h
  have HE := Lib.hid h; clear h
  go_enter Try.func50, Try.ntmps50
  go_wp2_with fail
  go_loopw [9] (fun i wr => ∃ j : Nat, j ≤ l.length ∧ i = .int .i64 j ∧ (∀ k, (hk : k < l.length) → k < j → l[k] ≠ (o0, o1)) ∧ Later (W.alloc (.cells #[.int .i64 o0, .int .i64 o1] 37)) wr) (fun i _ => l.length - (intOf i).toNat)
  case atStart => exact ⟨0, Nat.zero_le _, rfl, fun k _ h => absurd h (by omega), Later.rfl' _⟩
  case round =>
    obtain ⟨j, hj, rfl, hall, hw⟩ := hrel
    have b0 := ((box_alloc W _ _).later hw).cell (j := 0) rfl
    have b1 := ((box_alloc W _ _).later hw).cell (j := 1) rfl
    have hz := ((box_alloc W _ _).later hw).lt
    have HA := Lib.hid hall
    by_cases hlt : j < l.length
    · obtain ⟨b, off, rfl, hb, _, e0, e1, _⟩ := (HE.out.later (((Later.rfl' _).alloc _).trans hw)).origAt hlt
      obtain ⟨⟨x0, x1⟩, hX⟩ : ∃ x, x = l[j] := ⟨_, rfl⟩
      rw [← hX] at e0 e1
      simp only at e0 e1
      have HX := Lib.hid hX
      have HW := Lib.hid hw
      have hki : (j : Int) < (l.length : Int) := by omega
      clear hX hw hall
      by_cases hq : x0 = o0
      · subst hq
        by_cases hq2 : x1 = o1
        · subst hq2
          have HV : Hid (hasO l (x0, x1) = true) := hasO_true hlt HX.out.symm
          go_wp2
          skip
          go_ret
          exact ⟨ret_bool HV.out.symm, ((Later.rfl' _).alloc _).trans (HW.out.alloc _)⟩
        · have hne : (x1 != o1) = true := by simpa using hq2
          have hne2 : (x1 == o1) = false := by simpa using hq2
          have HN : Hid (l[j] ≠ (x0, o1)) := by have := HX.out; rw [← this]; intro e; simp only [Prod.mk.injEq, true_and] at e; exact hq2 e
          clear hq2
          go_wp2
          skip
          go_roundw
          case rel => exact ⟨j + 1, by omega, by go_num, fun k hk hkj => if e : k = j then by subst e; exact HN.out else HA.out k hk (by omega), (HW.out.alloc _)⟩
          case measure => simp [intOf]; omega
      · have hne : (x0 != o0) = true := by simpa using hq
        have hne2 : (x0 == o0) = false := by simpa using hq
        have HN : Hid (l[j] ≠ (o0, o1)) := by have := HX.out; rw [← this]; intro e; simp only [Prod.mk.injEq] at e; exact hq e.1
        clear hq
        go_wp2
        skip
        go_roundw
        case rel => exact ⟨j + 1, by omega, by go_num, fun k hk hkj => if e : k = j then by subst e; exact HN.out else HA.out k hk (by omega), (HW.out.alloc _)⟩
        case measure => simp [intOf]; omega
    · have HV : Hid (hasO l (o0, o1) = false) := hasO_false fun k hk => HA.out k hk (by omega)
      clear hall
      go_wp2
      go_ret
      exact ⟨ret_bool HV.out.symm, ((Later.rfl' _).alloc _).trans hw⟩

set_option maxHeartbeats 2000000 in
theorem specRowsUsing (d : Vl) (o : Org) (hcost : d.cost ≤ 1048576) (W : World) (S : Nat → Prop) (cs : List Value) (h : Ats W S (encV d) cs) : Calls Try.prog 11 #[.agg cs.toArray, .agg #[.int .i64 o.1, .int .i64 o.2]] W fun e w' => CopyS W w' 1 encI (rowsAt d.rows o d.rows.length) e ∧ Later W w' := by
  obtain ⟨k, n, s, t, l, cl, r, rfl⟩ := Vl.shape d
  obtain ⟨o0, o1⟩ := o
  obtain ⟨A1, c1, A2, c2, A3, c3, rfl, hb4, ⟨p1, q1⟩, ⟨p2, q2⟩, ⟨p3, q3⟩, g1, g2, g3⟩ := h.val
  rw [Vl.cost_mk] at hcost
  have hrl : r.length ≤ 1048576 := by omega
  have HR := Lib.hid g3
  clear h g1 g2 g3 hcost hb4
  simp only [Vl.rows]
  obtain ⟨i0, hi, hz0, hz1, hz2⟩ := info_parts info_int
  go_enter Try.func11, Try.ntmps11
  go_wp2_with fail
  go_loopw [5, 6] (fun out i wr => ∃ j : Nat, j ≤ r.length ∧ i = .int .i64 j ∧ wr.ownsRow (W.heap.size + 2) 3 1 out (rowsAt r (o0, o1) j).length ((rowsAt r (o0, o1) j).map (.int .i64)) ∧ Later ((W.alloc (.cells #[.int .i64 k, .int .i64 n, .int .i64 s, .string t, .slice A1 l.length c1, .slice A2 cl.length c2, .slice A3 r.length c3] 35)).alloc (.cells #[.int .i64 o0, .int .i64 o1] 37)) wr) (fun _ i _ => r.length - (intOf i).toNat)
  case atStart =>
    have H0 := World.ownsRow_made (base := W.heap.size + 2) (e := 3) (size := 1) ((W.alloc (.cells #[.int .i64 k, .int .i64 n, .int .i64 s, .string t, .slice A1 l.length c1, .slice A2 cl.length c2, .slice A3 r.length c3] 35)).alloc (.cells #[.int .i64 o0, .int .i64 o1] 37)) #[] 0 (by simp) (Nat.zero_le _) rfl
    exact ⟨0, Nat.zero_le _, rfl, by simpa [rowsAt] using H0, (Later.rfl' _).alloc _⟩
  case round =>
    obtain ⟨j, hj, rfl, hown, hw⟩ := hrel
    obtain ⟨P, Q, hsz, L0⟩ := box2 hw
    have a6 := P.cell (j := 6) rfl
    have b0 := Q.cell (j := 0) rfl
    have b1 := Q.cell (j := 1) rfl
    have z1 := P.lt
    have z2 := Q.lt
    clear P Q
    by_cases hlt : j < r.length
    · obtain ⟨b, off, B1, d1, B2, d2, rfl, hb, _, hx, e0, e1⟩ := (HR.out.later L0).rowAt hlt
      obtain ⟨B1', d1', B2', d2', he, ⟨x1, x2⟩, ⟨x3, x4⟩, g4, g5⟩ := hx.row
      simp only [List.cons.injEq, Value.slice.injEq, true_and, and_true] at he
      obtain ⟨⟨rfl, rfl⟩, rfl, rfl⟩ := he
      have C := fun W' (hW' : Later wr W') => specHasO r[j].from_ o0 o1 W' S _ (g5.later hW')
      have hhit := rowsAt_hit (o := (o0, o1)) hlt
      have hno := rowsAt_no (o := (o0, o1)) hlt
      have hle := rowsAt_le r (o0, o1) j
      obtain ⟨X, hX⟩ : ∃ X, X = r[j].from_ := ⟨_, rfl⟩
      obtain ⟨Y, hY⟩ : ∃ X, X = r[j].cells := ⟨_, rfl⟩
      rw [← hX] at C hhit hno e1 x3
      rw [← hY] at e0 x1
      obtain ⟨K, hK⟩ : ∃ K, K = rowsAt r (o0, o1) j := ⟨_, rfl⟩
      rw [← hK] at hown hhit hno hle
      have hki : (j : Int) < (r.length : Int) := by omega
      obtain ⟨q, hq⟩ : ∃ q, q = hasO X (o0, o1) := ⟨_, rfl⟩
      simp only [← hq] at C hhit hno
      have HC := Lib.hid C
      have HOWN := Lib.hid hown
      have HW := Lib.hid hw
      have HL0 := Lib.hid L0
      clear C hX hY hK hx g4 g5 hown hw hq L0
      cases q with
      | false =>
        have HNO := Lib.hid (hno rfl)
        clear hno hhit
        go_wp2_with fail
        go_region_held3 (fun w' => w'.cell? ⟨W.heap.size, 6, none⟩ = some (.slice (some ⟨b, off, none⟩) r.length c3) ∧ w'.cell? ⟨W.heap.size + 1, 0, none⟩ = some (.int .i64 o0) ∧ w'.cell? ⟨W.heap.size + 1, 1, none⟩ = some (.int .i64 o1) ∧ w'.cell? ⟨b, off + j * 2 + 1, none⟩ = some (.slice B2 X.length d2))
          (first | exact ⟨a6, b0, b1, e1⟩ | exact ⟨kept_cell hb1 a6, kept_cell hb1 b0, kept_cell hb1 b1, kept_cell hb1 e1⟩)
          (first | (go_at_call 48; refine (HC.out _ (Later.rfl' _).drew).mono ?_; rintro e w1 ⟨rfl, hb1⟩))
        replace hb1 := (Later.rfl' wr).drew.trans hb1
        have HOWN1 := Lib.hid (own_later HOWN.out hb1)
        have HB1 := Lib.hid hb1
        clear hb1
        go_wp2_with fail
        go_roundw
        case rel => exact ⟨j + 1, by omega, by go_num, by rw [HNO.out]; exact HOWN1.out, HW.out.trans HB1.out⟩
        case measure => simp [intOf]; omega
      | true =>
        have HYES := Lib.hid (hhit rfl)
        clear hno hhit
        go_wp2_with fail
        go_region_held3 (fun w' => w'.cell? ⟨W.heap.size, 6, none⟩ = some (.slice (some ⟨b, off, none⟩) r.length c3) ∧ w'.cell? ⟨W.heap.size + 1, 0, none⟩ = some (.int .i64 o0) ∧ w'.cell? ⟨W.heap.size + 1, 1, none⟩ = some (.int .i64 o1) ∧ w'.cell? ⟨b, off + j * 2 + 1, none⟩ = some (.slice B2 X.length d2))
          (first | exact ⟨a6, b0, b1, e1⟩ | exact ⟨kept_cell hb1 a6, kept_cell hb1 b0, kept_cell hb1 b1, kept_cell hb1 e1⟩)
          (first | (go_at_call 48; refine (HC.out _ (Later.rfl' _).drew).mono ?_; rintro e w1 ⟨rfl, hb1⟩))
        replace hb1 := (Later.rfl' wr).drew.trans hb1
        have hown1 := own_later HOWN.out hb1
        have hw1 := HL0.out.trans hb1
        have hs1 := (HW.out.trans hb1).size
        simp only [World.size_alloc] at hs1
        have HB1 := Lib.hid (HW.out.trans hb1)
        clear hb1 e0 e1 a6 b0 b1
        go_wp2_with (at_builtin; refine wpList_append_own _ rfl _ _ 30 rfl (W.heap.size + 2) 3 i0 (.int .i64 0) 1 8 Try.underlying30 hi hz0 hz1 hz2 rfl (by decide) _ _ _ rfl (hown1.alloc _) ⟨w1.heap.size, 0, none⟩ 1 1 [.int .i64 j] rfl rfl ?c1 ?c2 ?c3 ?c4 ?c5 ?_)
        case c1 =>
          intro j' u hj
          match j', hj with
          | 0, hj => simp at hj; subst hj; simp [Addr.add]
        case c2 => intro u hu; simp at hu; subst hu; rfl
        case c3 => unfold maxLen; omega
        case c4 => omega
        case c5 => simp; omega
        · intro v' w2 hown2 hgrow2 _
          have hl2 := Below.grown (HB1.out.alloc _) hgrow2 (HB1.out.alloc _).size (fun k hk => by have := ((hown1.alloc (.cells #[.int .i64 (j : Int)] 3)).lt k hk).1; simp only [World.size_alloc]; omega)
          have HRR : Hid (w2.ownsRow (W.heap.size + 2) 3 1 v' (rowsAt r (o0, o1) (j + 1)).length ((rowsAt r (o0, o1) (j + 1)).map (.int .i64))) := by
            unfold Hid
            rw [HYES.out, List.map_append, List.length_append]
            exact hown2
          have HL := Lib.hid hl2
          clear hown2 hgrow2 hown1 hw1 hl2 hs1
          go_wp2_with fail
          go_roundw
          case rel => exact ⟨j + 1, by omega, by go_num, HRR.out, HL.out⟩
          case measure => simp [intOf]; omega
    · have e : j = r.length := by omega
      subst e
      have HRES := Lib.hid (own_ints (S := fun b => W.heap.size ≤ b ∧ b < wr.heap.size) hown (fun x hx => by have := rowsAt_mem hx; unfold Between64; omega) (fun g hg => ⟨by have := (hown.lt g hg).1; omega, (hown.lt g hg).2⟩))
      clear hown
      go_wp2_with fail
      go_ret
      exact ⟨⟨_, rfl, HRES.out⟩, L0⟩

set_option maxHeartbeats 2000000 in
theorem implRowsUsing (d : Vl) (o : Org) (hcost : d.cost ≤ 1048576) (W : World) (S : Nat → Prop) (cs : List Value) (h : Ats W S (encV d) cs) : Calls Try.prog 14 #[.agg cs.toArray, .agg #[.int .i64 o.1, .int .i64 o.2]] W fun e w' => CopyS W w' 1 encI (rowsAt d.rows o d.rows.length) e ∧ Later W w' := by
  obtain ⟨k, n, s, t, l, cl, r, rfl⟩ := Vl.shape d
  obtain ⟨o0, o1⟩ := o
  obtain ⟨A1, c1, A2, c2, A3, c3, rfl, hb4, ⟨p1, q1⟩, ⟨p2, q2⟩, ⟨p3, q3⟩, g1, g2, g3⟩ := h.val
  rw [Vl.cost_mk] at hcost
  have hrl : r.length ≤ 1048576 := by omega
  have HR := Lib.hid g3
  clear h g1 g2 g3 hcost hb4
  simp only [Vl.rows]
  obtain ⟨i0, hi, hz0, hz1, hz2⟩ := info_parts info_int
  go_enter Try.func14, Try.ntmps14
  go_wp2_with fail
  go_loopw [5, 12] (fun out i wr => ∃ j : Nat, j ≤ r.length ∧ i = .int .i64 j ∧ wr.ownsRow (W.heap.size + 2) 3 1 out (rowsAt r (o0, o1) j).length ((rowsAt r (o0, o1) j).map (.int .i64)) ∧ Later ((W.alloc (.cells #[.int .i64 k, .int .i64 n, .int .i64 s, .string t, .slice A1 l.length c1, .slice A2 cl.length c2, .slice A3 r.length c3] 35)).alloc (.cells #[.int .i64 o0, .int .i64 o1] 37)) wr) (fun _ i _ => r.length - (intOf i).toNat)
  case atStart =>
    have H0 := World.ownsRow_made (base := W.heap.size + 2) (e := 3) (size := 1) ((W.alloc (.cells #[.int .i64 k, .int .i64 n, .int .i64 s, .string t, .slice A1 l.length c1, .slice A2 cl.length c2, .slice A3 r.length c3] 35)).alloc (.cells #[.int .i64 o0, .int .i64 o1] 37)) #[] 0 (by simp) (Nat.zero_le _) rfl
    exact ⟨0, Nat.zero_le _, rfl, by simpa [rowsAt] using H0, (Later.rfl' _).alloc _⟩
  case round =>
    obtain ⟨j, hj, rfl, hown, hw⟩ := hrel
    obtain ⟨P, Q, hsz, L0⟩ := box2 hw
    have a6 := P.cell (j := 6) rfl
    have b0 := Q.cell (j := 0) rfl
    have b1 := Q.cell (j := 1) rfl
    have z1 := P.lt
    have z2 := Q.lt
    clear P Q
    by_cases hlt : j < r.length
    · obtain ⟨b, off, B1, d1, B2, d2, rfl, hb, _, hx, e0, e1⟩ := (HR.out.later L0).rowAt hlt
      obtain ⟨B1', d1', B2', d2', he, ⟨x1, x2⟩, ⟨x3, x4⟩, g4, g5⟩ := hx.row
      simp only [List.cons.injEq, Value.slice.injEq, true_and, and_true] at he
      obtain ⟨⟨rfl, rfl⟩, rfl, rfl⟩ := he
      have C := fun W' (hW' : Later wr W') => implHasO r[j].from_ o0 o1 W' S _ (g5.later hW')
      have hhit := rowsAt_hit (o := (o0, o1)) hlt
      have hno := rowsAt_no (o := (o0, o1)) hlt
      have hle := rowsAt_le r (o0, o1) j
      obtain ⟨X, hX⟩ : ∃ X, X = r[j].from_ := ⟨_, rfl⟩
      obtain ⟨Y, hY⟩ : ∃ X, X = r[j].cells := ⟨_, rfl⟩
      rw [← hX] at C hhit hno e1 x3
      rw [← hY] at e0 x1
      obtain ⟨K, hK⟩ : ∃ K, K = rowsAt r (o0, o1) j := ⟨_, rfl⟩
      rw [← hK] at hown hhit hno hle
      have hki : (j : Int) < (r.length : Int) := by omega
      obtain ⟨q, hq⟩ : ∃ q, q = hasO X (o0, o1) := ⟨_, rfl⟩
      simp only [← hq] at C hhit hno
      have HC := Lib.hid C
      have HOWN := Lib.hid hown
      have HW := Lib.hid hw
      have HL0 := Lib.hid L0
      clear C hX hY hK hx g4 g5 hown hw hq L0
      cases q with
      | false =>
        have HNO := Lib.hid (hno rfl)
        clear hno hhit
        go_wp2_with fail
        refine (HC.out _ ((Later.rfl' _).alloc _)).mono ?_; rintro e w1 ⟨rfl, hb1⟩
        replace hb1 := ((Later.rfl' wr).alloc _).trans hb1
        have HOWN1 := Lib.hid (own_later HOWN.out hb1)
        have HB1 := Lib.hid hb1
        clear hb1
        go_wp2_with fail
        go_roundw
        case rel => exact ⟨j + 1, by omega, by go_num, by rw [HNO.out]; exact HOWN1.out, HW.out.trans HB1.out⟩
        case measure => simp [intOf]; omega
      | true =>
        have HYES := Lib.hid (hhit rfl)
        clear hno hhit
        go_wp2_with fail
        refine (HC.out _ ((Later.rfl' _).alloc _)).mono ?_; rintro e w1 ⟨rfl, hb1⟩
        replace hb1 := ((Later.rfl' wr).alloc _).trans hb1
        have hown1 := own_later HOWN.out hb1
        have hw1 := HL0.out.trans hb1
        have hs1 := (HW.out.trans hb1).size
        simp only [World.size_alloc] at hs1
        have HB1 := Lib.hid (HW.out.trans hb1)
        clear hb1 e0 e1 a6 b0 b1
        go_wp2_with (at_builtin; refine wpList_append_own _ rfl _ _ 30 rfl (W.heap.size + 2) 3 i0 (.int .i64 0) 1 8 Try.underlying30 hi hz0 hz1 hz2 rfl (by decide) _ _ _ rfl (hown1.alloc _) ⟨w1.heap.size, 0, none⟩ 1 1 [.int .i64 j] rfl rfl ?c1 ?c2 ?c3 ?c4 ?c5 ?_)
        case c1 =>
          intro j' u hj
          match j', hj with
          | 0, hj => simp at hj; subst hj; simp [Addr.add]
        case c2 => intro u hu; simp at hu; subst hu; rfl
        case c3 => unfold maxLen; omega
        case c4 => omega
        case c5 => simp; omega
        · intro v' w2 hown2 hgrow2 _
          have hl2 := Below.grown (HB1.out.alloc _) hgrow2 (HB1.out.alloc _).size (fun k hk => by have := ((hown1.alloc (.cells #[.int .i64 (j : Int)] 3)).lt k hk).1; simp only [World.size_alloc]; omega)
          have HRR : Hid (w2.ownsRow (W.heap.size + 2) 3 1 v' (rowsAt r (o0, o1) (j + 1)).length ((rowsAt r (o0, o1) (j + 1)).map (.int .i64))) := by
            unfold Hid
            rw [HYES.out, List.map_append, List.length_append]
            exact hown2
          have HL := Lib.hid hl2
          clear hown2 hgrow2 hown1 hw1 hl2 hs1
          go_wp2_with fail
          go_roundw
          case rel => exact ⟨j + 1, by omega, by go_num, HRR.out, HL.out⟩
          case measure => simp [intOf]; omega
    · have e : j = r.length := by omega
      subst e
      have HRES := Lib.hid (own_ints (S := fun b => W.heap.size ≤ b ∧ b < wr.heap.size) hown (fun x hx => by have := rowsAt_mem hx; unfold Between64; omega) (fun g hg => ⟨by have := (hown.lt g hg).1; omega, (hown.lt g hg).2⟩))
      clear hown
      go_wp2_with fail
      go_ret
      exact ⟨⟨_, rfl, HRES.out⟩, L0⟩
theorem rows_cost (d : Vl) : d.rows.length ≤ d.cost := by
  obtain ⟨k, n, s, t, l, cl, r, rfl⟩ := Vl.shape d
  rw [Vl.cost_mk]
  simp only [Vl.rows]
  omega
end Go.Proofs.Ytefhaochkfodnaa
