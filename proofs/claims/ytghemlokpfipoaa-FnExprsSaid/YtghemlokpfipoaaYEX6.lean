/-
  Draws of expressions: tables: the walk.
-/
import Derived.Test.YtghemlokpfipoaaYEX5
namespace Go.Proofs.Ytghemlokpfipoaa
open Go.ChangeShapes Go.WideShapes Go.ChangeAt Go.RowKit
set_option linter.unusedVariables false
set_option linter.unusedSimpArgs false
set_option maxRecDepth 100000

theorem cost_leafX (k n : Int) : (Ex.mk k n ⟨#[]⟩ []).cost = 0 := by rw [costX, show (⟨#[]⟩ : ByteArray).size = 0 from rfl]; simp [Ex.costs]
/-- A list of two numbers, made by a literal. -/
theorem two_nums {lo : Nat} {w : World} (hlo : lo ≤ w.heap.size) (x y : Nat) (hx : x < 3) (hy : y < 4) :
    Ats (w.alloc (.cells #[.int .i64 1, .int .i64 (x : Int), .string ⟨#[]⟩, .slice none 0 0, .int .i64 1, .int .i64 (y : Int), .string ⟨#[]⟩, .slice none 0 0] 67)) (fun b => lo ≤ b ∧ b < (w.alloc (.cells #[.int .i64 1, .int .i64 (x : Int), .string ⟨#[]⟩, .slice none 0 0, .int .i64 1, .int .i64 (y : Int), .string ⟨#[]⟩, .slice none 0 0] 67)).heap.size)
      (encE (.mk 4 0 ⟨#[]⟩ [.mk 1 (x : Int) ⟨#[]⟩ [], .mk 1 (y : Int) ⟨#[]⟩ []])) [.int .i64 4, .int .i64 0, .string ⟨#[]⟩, .slice (some ⟨w.heap.size, 0, none⟩) 2 2] := by
  have h1 := (TopE.nil lo w).ats (k := 1) (n := (x : Int)) (t := ⟨#[]⟩) ⟨by omega, by omega, by decide⟩
  have h2 := (TopE.nil lo w).ats (k := 1) (n := (y : Int)) (t := ⟨#[]⟩) ⟨by omega, by omega, by decide⟩
  have hT := top_made (lo := lo) (w := w) (es := [.mk 1 (x : Int) ⟨#[]⟩ [], .mk 1 (y : Int) ⟨#[]⟩ []]) (us := [.int .i64 1, .int .i64 (x : Int), .string ⟨#[]⟩, .slice none 0 0, .int .i64 1, .int .i64 (y : Int), .string ⟨#[]⟩, .slice none 0 0]) (by
    simp only [List.flatMap_cons, List.flatMap_nil, List.append_nil]
    exact h1.append h2) hlo (by simp)
  exact hT.ats ⟨by omega, by omega, by decide⟩

set_option maxHeartbeats 8000000 in
theorem drawTableX (g : Nat) (W : World) (hc : CurAt W g) : Calls Try.prog 215 #[.pointer (some ⟨g, 0, none⟩)] W fun r w' => DrawnX 1000 g W w' r := by
  have hlt := hc.lt
  obtain ⟨i0, hi, hz0, hz1, hz2⟩ := info_parts info_expr
  have HCU := Lib.hid hc
  clear hc
  go_enter Try.func215, Try.ntmps215
  go_wp2_with fail
  refine (drawBelow 4 g (by omega) (by omega) _ (HCU.out.later (((Later.rfl' _).alloc _).alloc _))).mono ?_; rintro e w1 ⟨⟨m, hm, rfl⟩, hcu, hch⟩
  have BR : Box w1 W.heap.size [.int .i64 0, .int .i64 0, .string ⟨#[]⟩, .slice none 0 0] := ((box_alloc W #[.int .i64 0, .int .i64 0, .string ⟨#[]⟩, .slice none 0 0] 67).later ((Later.rfl' _).alloc _)).chg hch (fun h => by unfold onlyB at h; omega)
  have BV : Box w1 (W.heap.size + 1) [.int .i64 4, .int .i64 0, .string ⟨#[]⟩, .slice none 0 0] := by
    have h := (box_alloc (W.alloc (.cells #[.int .i64 0, .int .i64 0, .string ⟨#[]⟩, .slice none 0 0] 67)) #[.int .i64 4, .int .i64 0, .string ⟨#[]⟩, .slice none 0 0] 67).chg hch (fun h => by unfold onlyB at h; simp at h; omega)
    rw [World.size_alloc] at h
    exact h
  have hsz : W.heap.size + 2 ≤ w1.heap.size := by have := hch.size; simp at this; omega
  have HR0 := Lib.hid BR; have HV0 := Lib.hid BV; have HCU1 := Lib.hid hcu
  have HCH := Lib.hid (((((Later.rfl' W).alloc _).alloc _).chg (freshB g W.heap.size)).trans (hch.more fun k hk => .inl hk))
  clear BR BV hcu hch HCU
  go_wp2_with fail
  go_loopw [5] (fun i wr => ∃ (l : List Ex) (lv : Value), i = .int .i64 (l.length : Int) ∧ l.length ≤ m ∧ Box wr W.heap.size [.int .i64 0, .int .i64 0, .string ⟨#[]⟩, .slice none 0 0] ∧ Box wr (W.heap.size + 1) [.int .i64 4, .int .i64 0, .string ⟨#[]⟩, lv] ∧ TopE (W.heap.size + 2) wr l lv ∧ Ex.costs l ≤ l.length * 100 ∧ CurAt wr g ∧ Chg (freshB g W.heap.size) W wr ∧ W.heap.size + 2 ≤ wr.heap.size) (fun i _ => m - (intOf i).toNat)
  case atStart => exact ⟨[], .slice none 0 0, rfl, Nat.zero_le _, HR0.out, HV0.out, TopE.nil _ _, by simp [Ex.costs], HCU1.out, HCH.out, hsz⟩
  case round =>
    obtain ⟨l, lv, rfl, hj, hR, hV, hP, hco, hcu, hch, hsz2⟩ := hrel
    have HR := Lib.hid hR; have HV := Lib.hid hV; have HP := Lib.hid hP; have HC := Lib.hid hcu; have HH := Lib.hid hch; have HCO := Lib.hid hco
    by_cases hlt2 : l.length < m
    · have hki : (l.length : Int) < (m : Int) := by omega
      have hk3 := hV.cell (j := 3) rfl
      have hz := hV.lt
      have hjn : (l.length + 1) * 56 ≤ 140737488355328 := by omega
      have hjm : l.length + 1 ≤ maxLen := by unfold maxLen; omega
      clear hR hV hP hco hcu hch HR0 HV0 HCU1 HCH
      go_wp2_with fail
      go_region_law (first
        | (refine step_append_lies _ rfl (.tmp 15) (.tmp 24) 65 rfl (W.heap.size + 2) 67 i0 (.agg #[.int .i64 0, .int .i64 0, .string ByteArray.empty, .slice none 0 0]) 4 56 Try.underlying65 hi hz0 hz1 hz2 rfl (by decide) lv l.length ys (by simp [Act.eval, Act.put]) a1 ⟨w5.heap.size + 1, 0, none⟩ 1 1 [.int .i64 4, .int .i64 0, .string ⟨#[]⟩, .slice (some ⟨w5.heap.size, 0, none⟩) 2 2] (by simp [Act.eval, Act.put]) a2 a4.out a3.out (by omega) hjm hjn a5 (w5.heap.size + 1 + 1) (by simp) ?_; intro gg cap w6 ho6 hg6 hat6 hlt6; obtain ⟨B6, HF⟩ := a6.out gg cap w6 ho6 hg6 hat6; have m3 := B6.cell (j := 3) rfl; have mf := B6.free 3; clear ho6 hg6 hat6 B6)
        | (go_simp; go_at_call 162; refine (specNumX _ _).mono ?_; rintro e w5 ⟨rfl, hb5⟩; have HC5 := Lib.hid (HC4.out.later hb5); have HCH5 := Lib.hid (HCH4.out.trans (hb5.chg (onlyB g))); have HC6 := Lib.hid (HC5.out.later ((Later.rfl' w5).alloc (.cells #[.int .i64 1, .int .i64 (x : Int), .string ⟨#[]⟩, .slice none 0 0, .int .i64 1, .int .i64 (y : Int), .string ⟨#[]⟩, .slice none 0 0] 67))); have HCH6 := Lib.hid (HCH5.out.trans (((Later.rfl' w5).alloc (.cells #[.int .i64 1, .int .i64 (x : Int), .string ⟨#[]⟩, .slice none 0 0, .int .i64 1, .int .i64 (y : Int), .string ⟨#[]⟩, .slice none 0 0] 67)).chg (onlyB g))); have HALL := Lib.hid (top_all (p := 3) 67 HV.out HP.out (Nat.lt_succ_self _) hsz2 HCH6.out (fun b hb => by unfold onlyB at hb; omega) (two_nums HCH5.out.size x y HX.out HY.out)); obtain ⟨b5, ys, a1, a2, a3, a4, a5, a6⟩ := HALL.out; have k5 := b5.cell (j := 3) rfl; have k6 := kept_cell ((Later.rfl' _).alloc (.cells #[.int .i64 4, .int .i64 0, .string ⟨#[]⟩, .slice (some ⟨w5.heap.size, 0, none⟩) 2 2] 67)) k5; have z6 : W.heap.size < w5.heap.size := Nat.lt_of_succ_lt (HV.out.chg HCH5.out (fun h => by unfold onlyB at h; omega)).lt; have k5b := (HV.out.chg HCH5.out (fun h => by unfold onlyB at h; omega)).cell (j := 3) rfl; have z5 := (HV.out.chg HCH5.out (fun h => by unfold onlyB at h; omega)).lt; replace a3 := Lib.hid a3; replace a4 := Lib.hid a4; replace a6 := Lib.hid a6; simp only [World.size_alloc] at a4 a6; clear b5 HALL hb5)
        | (go_simp; go_at_call 87; refine (drawBelow 4 g (by omega) (by omega) _ HC3.out).mono ?_; rintro e w4 ⟨⟨y, hy, rfl⟩, hcu4, hch4⟩; have HY := Lib.hid hy; have HC4 := Lib.hid hcu4; have HCH4 := Lib.hid (HCH3.out.trans hch4); have k4 := (HV.out.chg HCH4.out (fun h => by unfold onlyB at h; omega)).cell (j := 3) rfl; have z4 := hch4.size; clear hy hcu4 hch4)
        | (go_simp; go_at_call 162; refine (specNumX _ _).mono ?_; rintro e w3 ⟨rfl, hb3⟩; have HC3 := Lib.hid (HC2.out.later hb3); have HCH3 := Lib.hid (HCH2.out.trans (hb3.chg (onlyB g))); have k3 := (HV.out.chg HCH3.out (fun h => by unfold onlyB at h; omega)).cell (j := 3) rfl; have z3 := hb3.size; clear hb3)
        | (go_simp; go_at_call 87; refine (drawBelow 3 g (by omega) (by omega) _ (HC.out.later (Later.rfl' _).drew)).mono ?_; rintro e w2 ⟨⟨x, hx, rfl⟩, hcu2, hch2⟩; have HX := Lib.hid hx; have HC2 := Lib.hid hcu2; have HCH2 := Lib.hid ((((Later.rfl' wr).drew).chg (onlyB g)).trans hch2); have k2 := (HV.out.chg HCH2.out (fun h => by unfold onlyB at h; omega)).cell (j := 3) rfl; have z2 := hch2.size; clear hx hcu2 hch2))
      all_goals
        (obtain ⟨D1, D2, D3, D4⟩ := fill_done hlt HR.out HH.out HCH6.out HC6.out HF.out.2.2
         have F1 := HF.out.1
         have F2 : Box _ (W.heap.size + 1) [.int .i64 4, .int .i64 0, .string ⟨#[]⟩, .slice (some ⟨gg, 0, none⟩) (l.length + 1) cap] := HF.out.2.1
         have hxc : (Ex.mk 4 0 ⟨#[]⟩ [.mk 1 (x : Int) ⟨#[]⟩ [], .mk 1 (y : Int) ⟨#[]⟩ []]).cost = 2 := by rw [costX, costs_two, cost_leafX, cost_leafX]; rfl
         have HC1 : Hid (Ex.costs (l ++ [Ex.mk 4 0 ⟨#[]⟩ [.mk 1 (x : Int) ⟨#[]⟩ [], .mk 1 (y : Int) ⟨#[]⟩ []]]) ≤ (l.length + 1) * 100) := by unfold Hid; have := HCO.out; rw [costs_snoc, hxc]; omega
         have E1 := Lib.hid D1; have E2 := Lib.hid D2; have E3 := Lib.hid D3; have E4 := Lib.hid F1; have E5 := Lib.hid F2; have E6 := Lib.hid D4
         clear D1 D2 D3 D4 F1 F2 HF k2 k3 k4 k5 k5b k6 z6 z2 z3 z4 z5 hk3 hz a1 a2 a3 a4 a5 a6 m3 mf HCH3 HC3 HCH2 HC2 HCH4 HC4 HCH5 HC5 HCH6 HC6 HR HV HP HC HH hxc
         go_wp2_with fail
         go_roundw
         case rel => exact ⟨l ++ [Ex.mk 4 0 ⟨#[]⟩ [.mk 1 (x : Int) ⟨#[]⟩ [], .mk 1 (y : Int) ⟨#[]⟩ []]], _, by rw [List.length_append]; go_num, by rw [List.length_append]; simp; omega, E1.out, E5.out, E4.out, by rw [List.length_append]; exact HC1.out, E2.out, E3.out, by have := E6.out; omega⟩
         case measure => simp [intOf]; omega)
    · obtain ⟨A, c, rfl⟩ := hP.shape
      have HB := Lib.hid (hP.base (lo' := W.heap.size + 1) (by omega))
      obtain ⟨r0, r1, r2, r3, f0, f1, f2, f3⟩ := box_four hR
      obtain ⟨v0, v1, v2, v3, _⟩ := box_four hV
      have rz := hR.lt
      have vz := hV.lt
      have hm9 : l.length ≤ 3 := by omega
      have HRR := Lib.hid hR
      clear HR0 HV0 HCU1 HCH HR HV hR hV hP hco hcu hch
      have hT := top_made (lo := W.heap.size + 1) (w := wr) (es := [.mk 2 0 ⟨#[97, 32, 98]⟩ [], .mk 4 0 ⟨#[]⟩ l]) (us := [.int .i64 2, .int .i64 0, .string ⟨#[97, 32, 98]⟩, .slice none 0 0, .int .i64 4, .int .i64 0, .string ⟨#[]⟩, .slice A l.length c]) (by
        simp only [List.flatMap_cons, List.flatMap_nil, List.append_nil]
        exact ((TopE.nil (W.heap.size + 1) wr).ats (k := 2) (n := 0) (t := ⟨#[97, 32, 98]⟩) ⟨by omega, by omega, by decide⟩).append (HB.out.ats (k := 4) (n := 0) (t := ⟨#[]⟩) ⟨by omega, by omega, by decide⟩)) (by omega) (by simp)
      have hcost : Hid ((⟨#[116, 97, 98, 108, 101]⟩ : ByteArray).size + (([.mk 2 0 ⟨#[97, 32, 98]⟩ [], .mk 4 0 ⟨#[]⟩ l] : List Ex).length + Ex.costs [.mk 2 0 ⟨#[97, 32, 98]⟩ [], .mk 4 0 ⟨#[]⟩ l]) ≤ 1000) := by
        unfold Hid
        rw [costs_two, costX, costX, show (⟨#[]⟩ : ByteArray).size = 0 from rfl, show (⟨#[97, 32, 98]⟩ : ByteArray).size = 3 from rfl, show (⟨#[116, 97, 98, 108, 101]⟩ : ByteArray).size = 5 from rfl]
        have := HCO.out
        simp [Ex.costs]
        omega
      have HT := Lib.hid hT
      clear hT
      go_wp2_with fail
      refine (callX ⟨#[116, 97, 98, 108, 101]⟩ (by decide) [.mk 2 0 ⟨#[97, 32, 98]⟩ [], .mk 4 0 ⟨#[]⟩ l] _ _ (W.heap.size + 1) 1000 g _ hcost.out (HC.out.later ((Later.rfl' _).alloc _)) HT.out).mono ?_; rintro e w9 ⟨⟨k9, n9, t9, a9, A9, c9, rfl, hs, hm, ht⟩, hcu, hch⟩
      have hch2 : Chg (onlyB g) wr w9 := (((Later.rfl' _).alloc _).chg _).trans hch
      obtain ⟨q0, q1, q2, q3, g0, g1, g2, g3⟩ := box_four (HRR.out.chg hch2 fun h => by unfold onlyB at h; omega)
      have rz9 := (HRR.out.chg hch2 fun h => by unfold onlyB at h; omega).lt
      have HS := Lib.hid hs; have HM := Lib.hid hm; have HT9 := Lib.hid ht; have HC9 := Lib.hid hcu; have HH9 := Lib.hid (HH.out.trans (hch2.more (S' := freshB g W.heap.size) fun k hk => .inl hk))
      clear hs hm ht hcu hch hch2 HT HC HH HB HP r0 r1 r2 r3 f0 f1 f2 f3 v0 v1 v2 v3 rz vz
      go_wp2_with fail
      exact bodyPost_ret (v := .agg #[.int .i64 k9, .int .i64 n9, .string t9, .slice A9 a9.length c9]) (by simp [results, Try.results215, go_sem, q0, q1, q2, q3]) rfl
        (fill_endX rfl HT9.out HS.out HM.out HC9.out HH9.out hlt [.int .i64 k9, .int .i64 n9, .string t9, .slice A9 a9.length c9])

end Go.Proofs.Ytghemlokpfipoaa
