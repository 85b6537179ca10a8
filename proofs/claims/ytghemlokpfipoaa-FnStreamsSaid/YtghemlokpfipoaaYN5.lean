/-
  Valid values: IsValidValue of the reference: the walks.
-/
import Derived.Test.YtghemlokpfipoaaYMN
namespace Go.Proofs.Ytghemlokpfipoaa
open Go.ChangeShapes Go.WideShapes Go.ChangeAt Go.RowKit
set_option linter.unusedVariables false
set_option linter.unusedSimpArgs false
set_option maxRecDepth 100000

def elemB : Vl → Bool | .mk k _ _ _ _ _ _ => decide (k = 1) || (decide (k = 2) || decide (k = 3))
mutual
/-- Is a value valid? -/
def Vl.valid : Vl → Bool
  | .mk k n s t l c r =>
    if k = 1 then (decide (l.length = 0) && (decide (c.length = 0) && decide (r.length = 0))) && (decide (s = 0) && (decide (t.toList = []) && numV n))
    else if k = 2 then (decide (l.length = 0) && (decide (c.length = 0) && decide (r.length = 0))) && (decide (n = 0) && (decide (s = 0) && validText t))
    else if k = 4 then (decide (l.length = 0) && (decide (c.length = 0) && decide (r.length = 0))) && (decide (t.toList = []) && (numV n && numV s))
    else if k = 6 then (decide (l.length = 0) && (decide (c.length = 0) && decide (r.length = 0))) && (decide (s = 0) && (decide (t.toList = []) && (decide (1 ≤ n) && decide (n ≤ 8))))
    else if k = 5 then decide (n = 0) && (decide (s = 0) && (decide (t.toList = []) && (decide (l.length = 0) && tableB c r)))
    else if k = 3 then (decide (n = 0) && (decide (s = 0) && (decide (t.toList = []) && (decide (c.length = 0) && decide (r.length = 0))))) && (Vl.valids l && (decide (l.length ≤ 8) && decide (Vl.depths l ≤ 2)))
    else false
def Vl.valids : List Vl → Bool
  | [] => true
  | v :: vs => (elemB v && v.valid) && Vl.valids vs
end
theorem valids_eq : ∀ l : List Vl, Vl.valids l = l.all fun x => elemB x && x.valid
  | [] => rfl
  | v :: vs => by rw [Vl.valids, valids_eq vs]; rfl
def listB (l : List Vl) : Bool := Vl.valids l && (decide (l.length ≤ 8) && decide (Vl.depths l ≤ 2))
theorem valids_true {l : List Vl} (h : ∀ k, (hk : k < l.length) → elemB l[k] = true ∧ l[k].valid = true) : Vl.valids l = true := by
  rw [valids_eq]
  exact all_true fun k hk => by rw [(h k hk).1, (h k hk).2]; rfl
theorem valids_false {l : List Vl} {k : Nat} (hk : k < l.length) (h : (elemB l[k] && l[k].valid) = false) : Vl.valids l = false := by
  rw [valids_eq]
  exact all_false hk h

def ValidQ (fn : FuncId) (d : Vl) : Prop := d.cost ≤ 1099511627776 → ∀ (W : World) (S : Nat → Prop) (cs : List Value), Ats W S (encV d) cs → Calls Try.prog fn #[.agg cs.toArray] W fun r w' => r = .returned (.bool d.valid) ∧ Later W w'

theorem specElement (k n s : Int) (t : ByteArray) (v1 v2 v3 : Value) (q : Bool) (hq : (decide (k = 1) || (decide (k = 2) || decide (k = 3))) = q) (W : World) :
    Calls Try.prog 141 #[.agg #[.int .i64 k, .int .i64 n, .int .i64 s, .string t, v1, v2, v3]] W fun r w' => r = .returned (.bool q) ∧ w' = W.alloc (.cells #[.int .i64 k, .int .i64 n, .int .i64 s, .string t, v1, v2, v3] 28) := by
  have HQ := Lib.hid hq
  clear hq
  by_cases k1 : k = 1
  · subst k1
    go_enter Try.func141, Try.ntmps141
    go_wp2
    go_ret
    exact ⟨ret_bool (by rw [← HQ.out]; rfl), rfl⟩
  by_cases k2 : k = 2
  · subst k2
    go_enter Try.func141, Try.ntmps141
    go_wp2
    go_ret
    exact ⟨ret_bool (by rw [← HQ.out]; rfl), rfl⟩
  by_cases k3 : k = 3
  · subst k3
    go_enter Try.func141, Try.ntmps141
    go_wp2
    go_ret
    exact ⟨ret_bool (by rw [← HQ.out]; rfl), rfl⟩
  have HK := Lib.hid (And.intro k1 (And.intro k2 k3))
  have e1 : (k == 1) = false := by simpa using k1
  have e2 : (k == 2) = false := by simpa using k2
  have e3 : (k == 3) = false := by simpa using k3
  clear k1 k2 k3
  go_enter Try.func141, Try.ntmps141
  go_wp2
  go_ret
  exact ⟨ret_bool (by rw [← HQ.out]; simp [HK.out]), rfl⟩


set_option maxHeartbeats 2000000 in
theorem specList (k n s : Int) (t : ByteArray) (l : List Vl) (cl : List ByteArray) (r : List Rw) (ih : ∀ x, x ∈ l → ValidQ 30 x) (hcost : Vl.cost (.mk k n s t l cl r) ≤ 1099511627776) (W : World) (S : Nat → Prop) (cs : List Value) (h : Ats W S (encV (.mk k n s t l cl r)) cs) :
    Calls Try.prog 97 #[.agg cs.toArray] W fun e w' => e = .returned (.bool (listB l)) ∧ Later W w' := by
  have CD := fun W' (hW' : Later W W') => specDepthOf (.mk k n s t l cl r) hcost W' S cs (h.later hW')
  rw [Vl.depth] at CD
  have hdep := depth_le (.mk k n s t l cl r)
  rw [Vl.depth] at hdep
  obtain ⟨A1, c1, A2, c2, A3, c3, rfl, hb4, ⟨p1, q1⟩, ⟨p2, q2⟩, ⟨p3, q3⟩, g1, g2, g3⟩ := h.val
  rw [Vl.cost_mk] at hcost hdep
  have hm1 : ∀ x, x ∈ l → Vl.cost x ≤ 1099511627776 := fun x hx => by have := sumN_mem Vl.cost hx; omega
  obtain ⟨D, hD⟩ : ∃ D, D = Vl.depths l := ⟨_, rfl⟩
  rw [← hD] at hdep
  simp only [← hD] at CD
  have hDb : D ≤ 1099511627776 := by omega
  have HD := Lib.hid hD
  have HE := Lib.hid g1
  have IH := Lib.hid ih
  have HM := Lib.hid hm1
  have HCD := Lib.hid CD
  clear h g1 g2 g3 ih hm1 CD hcost hdep hD hb4
  go_enter Try.func97, Try.ntmps97
  go_wp2_with fail
  go_loopw [3] (fun i wr => ∃ j : Nat, j ≤ l.length ∧ i = .int .i64 j ∧ (∀ k, (hk : k < l.length) → k < j → elemB l[k] = true ∧ l[k].valid = true) ∧ Later (W.alloc (.cells #[.int .i64 k, .int .i64 n, .int .i64 s, .string t, .slice A1 l.length c1, .slice A2 cl.length c2, .slice A3 r.length c3] 28)) wr) (fun i _ => l.length - (intOf i).toNat)
  case atStart => exact ⟨0, Nat.zero_le _, rfl, fun k _ h => absurd h (by omega), Later.rfl' _⟩
  case round =>
    obtain ⟨j, hj, rfl, hall, hw⟩ := hrel
    have B := (box_alloc W _ _).later hw
    have a0 := B.cell (j := 0) rfl
    have a1 := B.cell (j := 1) rfl
    have a2 := B.cell (j := 2) rfl
    have a3 := B.cell (j := 3) rfl
    have a4 := B.cell (j := 4) rfl
    have a5 := B.cell (j := 5) rfl
    have a6 := B.cell (j := 6) rfl
    have hz : W.heap.size < wr.heap.size := B.lt
    have HA := Lib.hid hall
    have HW := Lib.hid hw
    have HLW := Lib.hid (((Later.rfl' W).alloc _).trans hw)
    clear B
    by_cases hlt : j < l.length
    · obtain ⟨b, off, y0, y1, y2, y3, B1, n1, d1, B2, n2, d2, B3, n3, d3, rfl, hb, _, hx, e0, e1, e2, e3, e4, e5, e6⟩ := (HE.out.later HLW.out).valAt hlt
      have C := fun W' (hW' : Later wr W') => IH.out l[j] (List.getElem_mem hlt) (HM.out _ (List.getElem_mem hlt)) W' S _ (hx.later hW')
      have hel : elemB l[j] = (decide (y0 = 1) || (decide (y0 = 2) || decide (y0 = 3))) := by
        obtain ⟨xk, xn, xs, xt, xl, xc, xr, he⟩ := Vl.shape l[j]
        rw [he] at hx ⊢
        obtain ⟨_, _, _, _, _, _, ee, _⟩ := hx.val
        simp only [List.cons.injEq, Value.int.injEq, true_and] at ee
        rw [ee.1]
        rfl
      have CE := fun W => specElement y0 y1 y2 y3 (.slice B1 n1 d1) (.slice B2 n2 d2) (.slice B3 n3 d3) (elemB l[j]) hel.symm W
      obtain ⟨q1, hq1⟩ : ∃ q, q = elemB l[j] := ⟨_, rfl⟩
      obtain ⟨q2, hq2⟩ : ∃ q, q = l[j].valid := ⟨_, rfl⟩
      simp only [← hq1] at CE
      simp only [← hq2] at C
      have HQ1 := Lib.hid hq1
      have HQ2 := Lib.hid hq2
      have HC := Lib.hid C
      have HCE := Lib.hid CE
      clear hx C CE hel hq1 hq2 hall hw
      cases q1 with
      | false =>
        have HF : Hid (listB l = false) := by unfold Hid listB; rw [valids_false hlt (by rw [← HQ1.out]; rfl)]; rfl
        go_wp2_with fail
        refine (HCE.out _).mono ?_; rintro e w1 ⟨rfl, rfl⟩
        go_wp2_with fail
        go_ret
        exact ⟨ret_bool HF.out.symm, HLW.out.alloc _⟩
      | true =>
        cases q2 with
        | false =>
          have HF : Hid (listB l = false) := by unfold Hid listB; rw [valids_false hlt (by rw [← HQ1.out, ← HQ2.out]; rfl)]; rfl
          go_wp2_with fail
          refine (HCE.out _).mono ?_; rintro e w1 ⟨rfl, rfl⟩
          go_wp2_with fail
          refine (HC.out _ ((Later.rfl' _).alloc _)).mono ?_; rintro e w1 ⟨rfl, hb1⟩
          go_wp2_with fail
          go_ret
          exact ⟨ret_bool HF.out.symm, (HLW.out.alloc _).trans hb1⟩
        | true =>
          go_wp2_with fail
          refine (HCE.out _).mono ?_; rintro e w1 ⟨rfl, rfl⟩
          go_wp2_with fail
          refine (HC.out _ ((Later.rfl' _).alloc _)).mono ?_; rintro e w1 ⟨rfl, hb1⟩
          go_wp2_with fail
          go_roundw
          case rel => exact ⟨j + 1, by omega, by go_num, fun k hk hkj => if e : k = j then by subst e; exact ⟨HQ1.out.symm, HQ2.out.symm⟩ else HA.out k hk (by omega), HW.out.trans (((Later.rfl' _).alloc _).trans hb1)⟩
          case measure => simp [intOf]; omega
    · have HV : Hid (listB l = (decide (l.length ≤ 8) && decide (D ≤ 2))) := by unfold Hid listB; rw [valids_true fun k hk => HA.out k hk (by omega), HD.out]; rfl
      clear hall hw HA
      by_cases h8 : l.length ≤ 8
      · have h8' : decide ((l.length : Int) ≤ 8) = true := by simp; omega
        have HL8 := Lib.hid h8
        go_wp2_with fail
        refine (HCD.out _ HLW.out).mono ?_; rintro e w1 ⟨rfl, hb1⟩
        go_wp2_with fail
        go_ret
        exact ⟨ret_bool (by rw [HV.out]; simp [HL8.out] <;> omega), HLW.out.trans hb1⟩
      · have h8' : decide ((l.length : Int) ≤ 8) = false := by simp; omega
        have HL8 := Lib.hid h8
        clear h8
        go_wp2_with fail
        go_ret
        exact ⟨ret_bool (by rw [HV.out]; simp [HL8.out]), HLW.out⟩

end Go.Proofs.Ytghemlokpfipoaa
