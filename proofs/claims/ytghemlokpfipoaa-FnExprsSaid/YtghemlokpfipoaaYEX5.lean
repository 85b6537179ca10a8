/-
  Draws of expressions: lists: the walk.
-/
import Derived.Test.YtghemlokpfipoaaYEX4
import Derived.Deep.RegionHeld3
namespace Go.Proofs.Ytghemlokpfipoaa
open Go.ChangeShapes Go.WideShapes Go.ChangeAt Go.RowKit
set_option linter.unusedVariables false
set_option linter.unusedSimpArgs false
set_option maxRecDepth 100000

theorem cell_far4 {w : World} {b o g : Nat} {u : Value} (h : w.cell? ⟨b, o, none⟩ = some u) (hne : b ≠ g) (k : Nat) (a0 a1 a2 a3 : Value) : ((((w.setCell ⟨g, k, none⟩ a0).setCell ⟨g, k + 1, none⟩ a1).setCell ⟨g, k + 2, none⟩ a2).setCell ⟨g, k + 3, none⟩ a3).cell? ⟨b, o, none⟩ = some u :=
  (World.cell?_of_block (w := w) (a := ⟨b, o, none⟩) (block_setFrom (g := g) (b := b) hne [a0, a1, a2, a3] w k)).trans h
theorem costs_snoc (l : List Ex) (x : Ex) : Ex.costs (l ++ [x]) = Ex.costs l + x.cost := by rw [costs_append, costs_one]

set_option maxHeartbeats 8000000 in
theorem drawListX (g : Nat) (xs : List ByteArray) (v : Value) (W : World) (hc : CurAt W g) (hn : NamesAt g W xs v) : Calls Try.prog 211 #[.pointer (some ⟨g, 0, none⟩), v] W fun r w' => DrawnX 1000 g W w' r := by
  have hlt := hc.lt
  obtain ⟨i0, hi, hz0, hz1, hz2⟩ := info_parts info_expr
  have HCU := Lib.hid hc
  have HN := Lib.hid (fun w' (h : Chg (freshB g W.heap.size) W w') => hn.fresh h)
  obtain ⟨nb, noff, nc, rfl, _⟩ := hn.cell
  clear hc hn
  go_enter Try.func211, Try.ntmps211
  go_wp2_with fail
  refine (drawBelow 4 g (by omega) (by omega) _ (HCU.out.later (((Later.rfl' _).alloc _).alloc _))).mono ?_; rintro e w1 ⟨⟨m, hm, rfl⟩, hcu, hch⟩
  have BR : Box w1 W.heap.size [.int .i64 0, .int .i64 0, .string ⟨#[]⟩, .slice none 0 0] := ((box_alloc W #[.int .i64 0, .int .i64 0, .string ⟨#[]⟩, .slice none 0 0] 67).later ((Later.rfl' _).alloc _)).chg hch (fun h => by unfold onlyB at h; omega)
  have BV : Box w1 (W.heap.size + 1) [.int .i64 4, .int .i64 0, .string ⟨#[]⟩, .slice none 0 0] := by
    have h := (box_alloc (W.alloc (.cells #[.int .i64 0, .int .i64 0, .string ⟨#[]⟩, .slice none 0 0] 67)) #[.int .i64 4, .int .i64 0, .string ⟨#[]⟩, .slice none 0 0] 67).chg hch (fun h => by unfold onlyB at h; simp at h; omega)
    rw [World.size_alloc] at h
    exact h
  have hsz : W.heap.size + 2 ≤ w1.heap.size := by have := hch.size; simp at this; omega
  have HR0 := Lib.hid BR; have HV0 := Lib.hid BV; have HCU1 := Lib.hid hcu
  have HCH := Lib.hid (((((Later.rfl' W).alloc _).alloc _).chg (freshB g W.heap.size)).trans (hch.more fun k hk => .inl hk))
  clear BR BV hcu hch HCU
  go_wp2_with fail
  go_loopw [7] (fun i wr => ∃ (l : List Ex) (lv : Value), i = .int .i64 (l.length : Int) ∧ l.length ≤ m ∧ Box wr W.heap.size [.int .i64 0, .int .i64 0, .string ⟨#[]⟩, .slice none 0 0] ∧ Box wr (W.heap.size + 1) [.int .i64 4, .int .i64 0, .string ⟨#[]⟩, lv] ∧ TopE (W.heap.size + 2) wr l lv ∧ Ex.costs l ≤ l.length * 100 ∧ CurAt wr g ∧ Chg (freshB g W.heap.size) W wr ∧ W.heap.size + 2 ≤ wr.heap.size) (fun i _ => m - (intOf i).toNat)
  case atStart => exact ⟨[], .slice none 0 0, rfl, Nat.zero_le _, HR0.out, HV0.out, TopE.nil _ _, by simp [Ex.costs], HCU1.out, HCH.out, hsz⟩
  case round =>
    obtain ⟨l, lv, rfl, hj, hR, hV, hP, hco, hcu, hch, hsz2⟩ := hrel
    have HR := Lib.hid hR; have HV := Lib.hid hV; have HP := Lib.hid hP; have HC := Lib.hid hcu; have HH := Lib.hid hch; have HCO := Lib.hid hco
    by_cases hlt2 : l.length < m
    · have hki : (l.length : Int) < (m : Int) := by omega
      have hk3 := hV.cell (j := 3) rfl
      have hz := hV.lt
      have hjn : (l.length + 1) * 56 ≤ 140737488355328 := by omega
      have hjm : l.length + 1 ≤ maxLen := by unfold maxLen; omega
      clear hR hV hP hco hcu hch HR0 HV0 HCU1 HCH
      go_wp2_with fail
      go_region_law (first
        | (refine step_append_lies _ rfl (.tmp 17) (.tmp 21) 65 rfl (W.heap.size + 2) 67 i0 (.agg #[.int .i64 0, .int .i64 0, .string ByteArray.empty, .slice none 0 0]) 4 56 Try.underlying65 hi hz0 hz1 hz2 rfl (by decide) lv l.length ys (by simp [Act.eval, Act.put]) a1 ⟨w3.heap.size, 0, none⟩ 1 1 [.int .i64 1, .int .i64 (x : Int), .string ⟨#[]⟩, .slice none 0 0] (by simp [Act.eval, Act.put]) a2 a4.out a3.out (by omega) hjm hjn a5 (w3.heap.size + 1) (by simp) ?_; intro gg cap w4 ho4 hg4 hat4 hlt4; obtain ⟨B4, HF⟩ := a6.out gg cap w4 ho4 hg4 hat4; have m3 := B4.cell (j := 3) rfl; have mf := B4.free 3; clear ho4 hg4 hat4 B4)
        | (go_simp; go_at_call 87; refine (drawBelow 5 g (by omega) (by omega) _ (HC.out.later (Later.rfl' _).drew)).mono ?_; rintro e w2 ⟨⟨x, hx, rfl⟩, hcu2, hch2⟩; have HX := Lib.hid hx; have HC2 := Lib.hid hcu2; have HCH2 := Lib.hid ((((Later.rfl' wr).drew).chg (onlyB g)).trans hch2); have k2 := (HV.out.chg HCH2.out (fun h => by unfold onlyB at h; omega)).cell (j := 3) rfl; have z2 := hch2.size; clear hx hcu2 hch2)
        | (go_simp; go_at_call 162; refine (specNumX _ _).mono ?_; rintro e w3 ⟨rfl, hb3⟩; have HC3 := Lib.hid (HC2.out.later hb3); have HCH3 := Lib.hid (HCH2.out.trans (hb3.chg (onlyB g))); have HALL := Lib.hid (top_all (p := 3) 67 HV.out HP.out (Nat.lt_succ_self _) hsz2 HCH3.out (fun b hb => by unfold onlyB at hb; omega) ((TopE.nil wr.heap.size w3).ats (k := 1) (n := (x : Int)) (t := ⟨#[]⟩) ⟨by omega, by have := HX.out; omega, by decide⟩)); obtain ⟨b3, ys, a1, a2, a3, a4, a5, a6⟩ := HALL.out; have k3 := b3.cell (j := 3) rfl; have z3 := b3.lt; replace a3 := Lib.hid a3; replace a4 := Lib.hid a4; replace a6 := Lib.hid a6; clear b3 HALL hb3))
      all_goals
        (obtain ⟨D1, D2, D3, D4⟩ := fill_done hlt HR.out HH.out HCH3.out HC3.out HF.out.2.2
         have F1 := HF.out.1
         have F2 : Box _ (W.heap.size + 1) [.int .i64 4, .int .i64 0, .string ⟨#[]⟩, .slice (some ⟨gg, 0, none⟩) (l.length + 1) cap] := HF.out.2.1
         clear HF k2 k3 z2 z3 hk3 hz a1 a2 a3 a4 a5 a6 m3 mf HCH3 HC3 HCH2 HC2 HR HV HP HC HH
         obtain ⟨wf, hwf⟩ : ∃ wf, wf = w4.setCell ⟨W.heap.size + 1, 3, none⟩ (.slice (some ⟨gg, 0, none⟩) (l.length + 1) cap) := ⟨_, rfl⟩
         rw [← hwf] at D1 D2 D3 D4 F1 F2
         have E1 := Lib.hid D1; have E2 := Lib.hid D2; have E3 := Lib.hid D3; have E4 := Lib.hid F1; have E5 := Lib.hid F2
         have HW := Lib.hid hwf
         clear D1 D2 D3 F1 F2 hwf
         go_wp2_with fail
         rw [← HW.out]
         clear HW
         refine (drawOnce 4 g (by omega) (by omega) _ E2.out).mono ?_; rintro e w5 ⟨⟨q, rfl⟩, hcu, hch⟩
         have hz5 := hch.size
         have G1 := E1.out.chg hch (fun h => by unfold onlyB at h; omega)
         have G5 := E5.out.chg hch (fun h => by unfold onlyB at h; omega)
         have G4 := E4.out.chg hch (fun b h1 h2 h => by unfold onlyB at h; omega)
         have G3 := E3.out.trans (hch.more (S' := freshB g W.heap.size) fun k hk => .inl hk)
         have hxc : (Ex.mk 1 (x : Int) ⟨#[]⟩ []).cost = 0 := by rw [costX, show (⟨#[]⟩ : ByteArray).size = 0 from rfl]; simp [Ex.costs]
         have hc1 : Ex.costs (l ++ [Ex.mk 1 (x : Int) ⟨#[]⟩ []]) ≤ (l.length + 1) * 100 := by have := HCO.out; rw [costs_snoc, hxc]; omega
         replace E1 := Lib.hid G1; replace E2 := Lib.hid hcu; replace E3 := Lib.hid G3; replace E4 := Lib.hid G4
         have HC1 := Lib.hid hc1
         cases q with
         | false =>
           replace E5 := Lib.hid G5
           clear G1 G3 G4 G5 hcu hch hc1 hxc
           go_wp2_with fail
           go_roundw
           case rel => exact ⟨l ++ [Ex.mk 1 (x : Int) ⟨#[]⟩ []], _, by rw [List.length_append]; go_num, by rw [List.length_append]; simp; omega, E1.out, E5.out, E4.out, by rw [List.length_append]; exact HC1.out, E2.out, E3.out, by omega⟩
           case measure => simp [intOf]; omega
         | true =>
           have hk3 := G5.cell (j := 3) rfl
           have hk3d : w5.drew.cell? ⟨W.heap.size + 1, 3, none⟩ = some (.slice (some ⟨gg, 0, none⟩) (l.length + 1) cap) := kept_cell (Later.rfl' _).drew hk3
           have hl0 : (0 : Int) ≤ (l.length : Int) := by omega
           have hl1 : (l.length : Int) < (l.length : Int) + 1 := by omega
           have hl2 : (l.length : Int) < ((l.length + 1 : Nat) : Int) := by omega
           have hggs : gg < w5.heap.size ∧ W.heap.size + 2 ≤ gg := by
             obtain ⟨_, h1, _⟩ := G4
             exact ⟨(h1.lt gg rfl).2, (h1.lt gg rfl).1⟩
           have E5 := Lib.hid G5
           have HG := Lib.hid hggs
           have hne9 : W.heap.size + 1 ≠ gg := by omega
           have HK3 := Lib.hid hk3d
           clear G1 G3 G4 G5 hcu hch hc1 hggs hk3d
           go_wp2_with fail
           go_region_held3 (fun w' => w'.cell? ⟨W.heap.size + 1, 3, none⟩ = some (.slice (some ⟨gg, 0, none⟩) (l.length + 1) cap))
             (first | with_reducible exact HK3.out | with_reducible exact HK6.out | with_reducible exact cell_far4 HK6.out hne9 _ _ _ _ _)
             (first | (go_at_call 158; refine (drawLeaf g xs _ _ (E2.out.later (Later.rfl' _).drew) (HN.out _ (E3.out.trans ((Later.rfl' _).drew.chg _)))).mono ?_; rintro r w6 hr; obtain ⟨⟨k9, n9, t9, a9, A9, c9, rfl, hs9, hm9, ht9⟩, hcu9, hch9⟩ := hr.step (lo := w5.heap.size) (Nat.le_refl _); have hch6 : Chg (onlyB g) w5 w6 := ((Later.rfl' _).drew.chg _).trans hch9; have HK6 := Lib.hid ((E5.out.chg hch6 (fun h => by unfold onlyB at h; omega)).cell (j := 3) rfl); have HS9 := Lib.hid hs9; have HM9 := Lib.hid hm9; have HC9 := Lib.hid hcu9; have HH9 := Lib.hid hch6; have HT9 := Lib.hid ht9; have HL9 := Lib.hid (TopE.last (E4.out.chg hch6 (fun b h1 h2 h => by unfold onlyB at h; omega)) ((ht9.ats hs9).more fun b hb => (show W.heap.size + 2 ≤ b ∧ b ≠ gg by have := HG.out; omega))); obtain ⟨⟨u0, u1, u2, u3, e0, e1, e2, e3⟩, ef, eg, _⟩ := HL9.out; have ef0 := ef (l.length * 4); have ef1 := ef (l.length * 4 + 1); have ef2 := ef (l.length * 4 + 2); have ef3 := ef (l.length * 4 + 3); clear hs9 hm9 ht9 hcu9 hch9 hch6 hr ef))
           all_goals
             (rename_i hHL; clear hHL
              have cg := chg_setFrom (g := gg) [.int .i64 k9, .int .i64 n9, .string t9, .slice A9 a9.length c9] w6 (l.length * 4)
              have hq := HG.out
              have hs6 := HH9.out.size
              have J1 := Lib.hid ((E1.out.chg HH9.out (fun h => by unfold onlyB at h; omega)).chg cg fun h => by omega)
              have J5 := Lib.hid ((E5.out.chg HH9.out (fun h => by unfold onlyB at h; omega)).chg cg fun h => by omega)
              have J4 := Lib.hid HL9.out.2.2.2.2
              have J2 := Lib.hid (HC9.out.chg cg fun b hb h => by omega)
              have J3 := Lib.hid ((E3.out.trans (HH9.out.more (S' := freshB g W.heap.size) fun k hk => .inl hk)).trans (cg.more fun k hk => .inr (by omega)))
              have hsz9 : Hid (W.heap.size + 2 ≤ (setFrom w6 gg (l.length * 4) [.int .i64 k9, .int .i64 n9, .string t9, .slice A9 a9.length c9]).heap.size) := by unfold Hid; rw [size_setFrom]; omega
              have hco9 : Hid (Ex.costs (l ++ [Ex.mk k9 n9 t9 a9]) ≤ (l.length + 1) * 100) := by unfold Hid; rw [costs_snoc]; have := HCO.out; have := HM9.out; omega
              clear cg hq hs6 u0 u1 u2 u3 e0 e1 e2 e3 ef0 ef1 ef2 ef3 eg
              go_wp2_with fail
              go_roundw
              case rel => exact ⟨l ++ [Ex.mk k9 n9 t9 a9], _, by rw [List.length_append]; go_num, by rw [List.length_append]; simp; omega, J1.out, J5.out, J4.out, by rw [List.length_append]; exact hco9.out, J2.out, J3.out, hsz9.out⟩
              case measure => simp [intOf]; omega))
    · obtain ⟨A, c, rfl⟩ := hP.shape
      have HB := Lib.hid (hP.base (lo' := W.heap.size + 1) (by omega))
      obtain ⟨r0, r1, r2, r3, f0, f1, f2, f3⟩ := box_four hR
      obtain ⟨v0, v1, v2, v3, _⟩ := box_four hV
      have rz := hR.lt
      have vz := hV.lt
      have hcost : Hid ((Ex.mk 4 0 ⟨#[]⟩ l).cost ≤ 1000) := by unfold Hid; rw [costX, show (⟨#[]⟩ : ByteArray).size = 0 from rfl]; have := HCO.out; omega
      clear hR hV hP hco hcu hch HR0 HV0 HCU1 HCH HP HR HV
      go_wp2_with fail
      exact bodyPost_ret (v := .agg #[.int .i64 4, .int .i64 0, .string ⟨#[]⟩, .slice A l.length c]) (by simp [results, Try.results211, go_sem, r0, r1, r2, r3]) rfl
        (fill_endX rfl HB.out ⟨by omega, by omega, by decide⟩ hcost.out HC.out HH.out hlt [.int .i64 4, .int .i64 0, .string ⟨#[]⟩, .slice A l.length c])

end Go.Proofs.Ytghemlokpfipoaa
