/-
  Draws of lists of numbers: l3Numbers: the walk.
-/
import Derived.Test.YtghemlokpfipoaaYDP
namespace Go.Proofs.Ytghemlokpfipoaa
open Go.ChangeShapes Go.WideShapes Go.ChangeAt Go.RowKit
set_option linter.unusedVariables false
set_option linter.unusedSimpArgs false
set_option maxRecDepth 100000


set_option maxHeartbeats 4000000 in
theorem drawNumbers (g : Nat) (W : World) (hc : CurAt W g) : Calls Try.prog 134 #[.pointer (some ⟨g, 0, none⟩)] W fun r w' => DrawnR 1000 g W w' r := by
  have hlt := hc.lt
  obtain ⟨i0, hi, hz0, hz1, hz2⟩ := info_parts info_value
  have HCU := Lib.hid hc
  clear hc
  go_enter Try.func134, Try.ntmps134
  go_wp2_with fail
  refine (drawBelow 9 g (by omega) (by omega) _ (HCU.out.later (((Later.rfl' _).alloc _).alloc _))).mono ?_; rintro e w1 ⟨⟨m, hm, rfl⟩, hcu, hch⟩
  have BR : Box w1 W.heap.size [.int .i64 0, .int .i64 0, .int .i64 0, .string ⟨#[]⟩, .slice none 0 0, .slice none 0 0, .slice none 0 0] := ((box_alloc W #[.int .i64 0, .int .i64 0, .int .i64 0, .string ⟨#[]⟩, .slice none 0 0, .slice none 0 0, .slice none 0 0] 28).later ((Later.rfl' _).alloc _)).chg hch (fun h => by unfold onlyB at h; omega)
  have BV : Box w1 (W.heap.size + 1) [.int .i64 3, .int .i64 0, .int .i64 0, .string ⟨#[]⟩, .slice none 0 0, .slice none 0 0, .slice none 0 0] := by
    have h := (box_alloc (W.alloc (.cells #[.int .i64 0, .int .i64 0, .int .i64 0, .string ⟨#[]⟩, .slice none 0 0, .slice none 0 0, .slice none 0 0] 28)) #[.int .i64 3, .int .i64 0, .int .i64 0, .string ⟨#[]⟩, .slice none 0 0, .slice none 0 0, .slice none 0 0] 28).chg hch (fun h => by unfold onlyB at h; simp at h; omega)
    rw [World.size_alloc] at h
    exact h
  have hsz : W.heap.size + 2 ≤ w1.heap.size := by have := hch.size; simp at this; omega
  have HR0 := Lib.hid BR; have HV0 := Lib.hid BV; have HCU1 := Lib.hid hcu
  have HCH := Lib.hid (((((Later.rfl' W).alloc _).alloc _).chg (freshB g W.heap.size)).trans (hch.more fun k hk => .inl hk))
  clear BR BV hcu hch HCU
  go_wp2_with fail
  go_loopw [5] (fun i wr => ∃ (l : List Vl) (lv : Value), i = .int .i64 (l.length : Int) ∧ l.length ≤ m ∧ Box wr W.heap.size [.int .i64 0, .int .i64 0, .int .i64 0, .string ⟨#[]⟩, .slice none 0 0, .slice none 0 0, .slice none 0 0] ∧ Box wr (W.heap.size + 1) [.int .i64 3, .int .i64 0, .int .i64 0, .string ⟨#[]⟩, lv, .slice none 0 0, .slice none 0 0] ∧ Pushed (W.heap.size + 2) wr 28 7 encV l lv ∧ (∀ x ∈ l, x.cost ≤ 100) ∧ CurAt wr g ∧ Chg (freshB g W.heap.size) W wr ∧ W.heap.size + 2 ≤ wr.heap.size) (fun i _ => m - (intOf i).toNat)
  case atStart => exact ⟨[], .slice none 0 0, rfl, Nat.zero_le _, HR0.out, HV0.out, Pushed.row0 encV (World.ownsRow_nil _ _ _ _), fun x hx => by simp at hx, HCU1.out, HCH.out, hsz⟩
  case round =>
    obtain ⟨l, lv, rfl, hj, hR, hV, hP, hsm, hcu, hch, hsz2⟩ := hrel
    have HR := Lib.hid hR; have HV := Lib.hid hV; have HP := Lib.hid hP; have HSM := Lib.hid hsm; have HC := Lib.hid hcu; have HH := Lib.hid hch
    by_cases hlt2 : l.length < m
    · have hki : (l.length : Int) < (m : Int) := by omega
      have hk4 := hV.cell (j := 4) rfl
      have hz := hV.lt
      have hjn : (l.length + 1) * 112 ≤ 140737488355328 := by omega
      have hjm : l.length + 1 ≤ maxLen := by unfold maxLen; omega
      clear hR hV hP hsm hcu hch HR0 HV0 HCU1 HCH
      go_wp2_with fail
      go_region_law (first
        | (refine step_append_lies _ rfl (.tmp 15) (.tmp 19) 24 rfl (W.heap.size + 2) 28 i0 (.agg #[.int .i64 0, .int .i64 0, .int .i64 0, .string ByteArray.empty, .slice none 0 0, .slice none 0 0, .slice none 0 0]) 7 112 Try.underlying24 hi hz0 hz1 hz2 rfl (by decide) lv l.length xs (by simp [Act.eval, Act.put]) a1 ⟨w3.heap.size, 0, none⟩ 1 1 [.int .i64 1, .int .i64 x, .int .i64 0, .string ⟨#[]⟩, .slice none 0 0, .slice none 0 0, .slice none 0 0] (by simp [Act.eval, Act.put]) a2 a4.out a3.out (by omega) hjm hjn a5 (w3.heap.size + 1) (by simp) ?_; intro gg cap w4 ho4 hg4 hat4 hlt4; obtain ⟨B4, HF⟩ := a6.out gg cap w4 ho4 hg4 hat4; have m4 := B4.cell (j := 4) rfl; have mf := B4.free 4; clear ho4 hg4 hat4 B4)
        | (go_simp; go_at_call 136; refine (drawNum g _ (HC.out.later (Later.rfl' _).drew)).mono ?_; rintro e w2 ⟨⟨x, hx, rfl⟩, hcu2, hch2⟩; have HX := Lib.hid hx; have HC2 := Lib.hid hcu2; have HCH2 := Lib.hid ((((Later.rfl' wr).drew).chg (onlyB g)).trans hch2); have k2 := (HV.out.chg HCH2.out (fun h => by unfold onlyB at h; omega)).cell (j := 4) rfl; have z2 := hch2.size; clear hx hcu2 hch2)
        | (go_simp; go_at_call 26; refine (specNumberValue _ _).mono ?_; rintro e w3 ⟨rfl, hb3⟩; unfold leafA; have HC3 := Lib.hid (HC2.out.later hb3); have HCH3 := Lib.hid (HCH2.out.trans (hb3.chg (onlyB g))); have HALL := Lib.hid (push_all (p := 4) encV_len 28 HV.out HP.out (Nat.lt_succ_self _) hsz2 HCH3.out (fun b hb => by unfold onlyB at hb; omega) (owns_leafV w3 (fun b => wr.heap.size ≤ b ∧ b < w3.heap.size) (k := 1) (n := x) (s := 0) (t := ⟨#[]⟩) (by unfold Between64; omega) (by have := HX.out; unfold Between64; omega) (by unfold Between64; omega) (by decide))); obtain ⟨b3, xs, a1, a2, a3, a4, a5, a6⟩ := HALL.out; have k3 := b3.cell (j := 4) rfl; have z3 := b3.lt; replace a3 := Lib.hid a3; replace a4 := Lib.hid a4; replace a6 := Lib.hid a6; clear b3 HALL hb3))
      all_goals
        (obtain ⟨D1, D2, D3, D4⟩ := fill_done hlt HR.out HH.out HCH3.out HC3.out HF.out.2.2
         have E1 := Lib.hid D1; have E2 := Lib.hid D2; have E3 := Lib.hid D3
         clear D1 D2 D3 k2 k3 z2 z3 hk4 hz a1 a2 a3 a4 a5 a6 m4 mf
         go_wp2_with fail
         go_roundw
         case rel => exact ⟨l ++ [leafD 1 x 0 ⟨#[]⟩], _, by rw [List.length_append]; go_num, by rw [List.length_append]; simp; omega, E1.out, HF.out.2.1, HF.out.1, (fun y hy => by
           rcases List.mem_append.1 hy with h | h
           · exact HSM.out y h
           · rw [List.mem_singleton.1 h, cost_leaf]; decide), E2.out, E3.out, by omega⟩
         case measure => simp [intOf]; omega)
    · obtain ⟨A, c, rfl⟩ := pushed_shape hP
      have HO := Lib.hid ((DrawnT.ofList hP).base (lo' := W.heap.size + 1) (Nat.le_succ _))
      have hcost : Hid ((listD l).cost ≤ 1000) := by
        have h1 := sum_le hsm
        have := cost_list l
        unfold Hid
        omega
      have r0 := hR.cell (j := 0) rfl
      have f0 := hR.free 0
      have v0 := hV.cell (j := 0) rfl
      have r1 := hR.cell (j := 1) rfl
      have f1 := hR.free 1
      have v1 := hV.cell (j := 1) rfl
      have r2 := hR.cell (j := 2) rfl
      have f2 := hR.free 2
      have v2 := hV.cell (j := 2) rfl
      have r3 := hR.cell (j := 3) rfl
      have f3 := hR.free 3
      have v3 := hV.cell (j := 3) rfl
      have r4 := hR.cell (j := 4) rfl
      have f4 := hR.free 4
      have v4 := hV.cell (j := 4) rfl
      have r5 := hR.cell (j := 5) rfl
      have f5 := hR.free 5
      have v5 := hV.cell (j := 5) rfl
      have r6 := hR.cell (j := 6) rfl
      have f6 := hR.free 6
      have v6 := hV.cell (j := 6) rfl
      have rz := hR.lt
      have vz := hV.lt
      clear hR hV hP hsm hcu hch HR0 HV0 HCU1 HCH HP HR HV
      go_wp2_with fail
      exact bodyPost_ret (v := .agg #[.int .i64 3, .int .i64 0, .int .i64 0, .string ⟨#[]⟩, .slice A l.length c, .slice none 0 0, .slice none 0 0]) (by simp [results, Try.results134, go_sem, r0, r1, r2, r3, r4, r5, r6]) rfl
        (fill_endR rfl HO.out (by unfold SmallD; decide) hcost.out HC.out HH.out hlt [.int .i64 3, .int .i64 0, .int .i64 0, .string ⟨#[]⟩, .slice A l.length c, .slice none 0 0, .slice none 0 0])

end Go.Proofs.Ytghemlokpfipoaa
