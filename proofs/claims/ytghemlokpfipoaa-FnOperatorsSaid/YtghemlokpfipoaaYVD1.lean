/-
  Draws of values: l3From, l3Element2, l3DrawList: the walks.
-/
import Derived.Test.YtghemlokpfipoaaYK8
import Derived.Test.YtghemlokpfipoaaYDQ
namespace Go.Proofs.Ytghemlokpfipoaa
open Go.ChangeShapes Go.WideShapes Go.ChangeAt Go.RowKit
set_option linter.unusedVariables false
set_option linter.unusedSimpArgs false
set_option maxRecDepth 100000

/-- A drawn slice of origins. -/
def FromR (g : Nat) (W w' : World) (r : Ending) : Prop := (∃ xs v, r = .returned v ∧ Pushed W.heap.size w' 101 2 encO xs v ∧ xs.length ≤ 3) ∧ CurAt w' g ∧ Chg (onlyB g) W w'
set_option maxHeartbeats 2000000 in
theorem drawFrom (g : Nat) (W : World) (hc : CurAt W g) : Calls Try.prog 126 #[.pointer (some ⟨g, 0, none⟩)] W fun r w' => FromR g W w' r := by
  have hlt := hc.lt
  have HCU := Lib.hid (hc.later ((Later.rfl' W).alloc (.cells #[] 101)))
  obtain ⟨i0, hi, hz0, hz1, hz2⟩ := info_parts info_orig
  clear hc
  go_enter Try.func126, Try.ntmps126
  go_wp2_with fail
  refine (drawBelow 3 g (by omega) (by omega) _ HCU.out).mono ?_; rintro e w1 ⟨⟨m, hm, rfl⟩, hcu, hch⟩
  have hp0 : Pushed W.heap.size w1 101 2 encO [] (.slice (some ⟨W.heap.size, 0, none⟩) 0 0) :=
    (Pushed.row0 encO (World.ownsRow_made W #[] 0 (Nat.le_refl _) (Nat.zero_le _) rfl)).chg hch fun b hb h => by unfold onlyB at h; omega
  have hch0 : Chg (freshB g W.heap.size) W w1 := (((Later.rfl' W).alloc (.cells #[] 101)).chg _).trans (hch.more fun k hk => .inl hk)
  have HP := Lib.hid hp0; have H1 := Lib.hid hcu; have H2 := Lib.hid hch0
  clear hp0 hcu hch hch0 HCU
  go_wp2_with fail
  go_loopw [3, 4, 6] (fun o c i wr => ∃ (xs : List Org) (cell : Nat), c = .int .i64 (cell : Int) ∧ cell ≤ 1 + 2 * xs.length ∧ i = .int .i64 (xs.length : Int) ∧ xs.length ≤ m ∧ Pushed W.heap.size wr 101 2 encO xs o ∧ CurAt wr g ∧ Chg (freshB g W.heap.size) W wr) (fun _ _ i _ => m - (intOf i).toNat)
  case atStart => exact ⟨[], 1, rfl, by simp, rfl, Nat.zero_le _, HP.out, H1.out, H2.out⟩
  case round =>
    obtain ⟨xs, cell, rfl, hce, rfl, hj, hp, hcu, hch⟩ := hrel
    clear HP H1 H2
    by_cases hlt2 : xs.length < m
    · have hki : (xs.length : Int) < (m : Int) := by omega
      have hsz := hch.size
      have HP := Lib.hid hp; have HCU := Lib.hid hcu; have HCH := Lib.hid hch
      clear hp hcu hch
      go_wp2_with fail
      refine (drawBelow 2 g (by omega) (by omega) _ HCU.out).mono ?_; rintro e w2 ⟨⟨x, hx, rfl⟩, hcu, hch⟩
      have HC2 := Lib.hid hcu; have HH2 := Lib.hid hch
      have hsz2 := hch.size
      obtain ⟨ys, a1, a2, a3, a4, a5, a6⟩ := HP.out.ask encO_len hch (fun b hb h => by unfold onlyB at h; omega) hsz (x := ((cell : Int), (xs.length : Int) + (x : Int) * 2)) (us := [.int .i64 (cell : Int), .int .i64 ((xs.length : Int) + (x : Int) * 2)])
        (owns_leaves (S := anyB) (.cons (.int _ (by unfold Between64; omega)) (.cons (.int _ (by unfold Between64; omega)) .nil)) (by simp [encO])) 101
      have hlow := fun b (hb : some b = Value.ownBlock _) => (a1.lt b hb.symm).1
      have A3 := Lib.hid a3; have A4 := Lib.hid a4; have A6 := Lib.hid a6; have HLOW := Lib.hid hlow
      have hjn : (xs.length + 1) * 16 ≤ 140737488355328 := by omega
      have hjm : xs.length + 1 ≤ maxLen := by unfold maxLen; omega
      clear a3 a4 a6 hlow hcu hch
      go_wp2_with (at_builtin; refine wpList_append_lies _ rfl (.tmp 15) (.tmp 23) 52 rfl W.heap.size 101 i0 (.agg #[.int .i64 0, .int .i64 0]) 2 16 Try.underlying52 hi hz0 hz1 hz2 rfl (by decide) _ xs.length ys rfl a1 ⟨w2.heap.size, 0, none⟩ 1 1 [.int .i64 (cell : Int), .int .i64 ((xs.length : Int) + (x : Int) * 2)] rfl a2 A4.out A3.out (by omega) hjm hjn a5 (w2.heap.size + 1) (by simp) ?_)
      intro gg cap w4 ho4 hg4 hat4 hlt4
      have hp4 := A6.out gg cap w4 ho4 hg4 hat4
      have hg5 := chg_grown hg4
      have hcu4 : CurAt w4 g := (HC2.out.later ((Later.rfl' _).alloc _)).chg hg5 fun b hb he => by have := HLOW.out b he; omega
      have hch4 : Chg (freshB g W.heap.size) W w4 := ((HCH.out.trans (HH2.out.more (S' := freshB g W.heap.size) fun k hk => .inl hk)).trans (((Later.rfl' w2).alloc _).chg _)).trans (hg5.more fun k hk => .inr (HLOW.out k hk))
      have HP4 := Lib.hid hp4; have HC4 := Lib.hid hcu4; have HH4 := Lib.hid hch4
      clear ho4 hg4 hat4 hg5 hp4 hcu4 hch4 a1 a2 a5 A3 A4 A6 HLOW HP HCU HCH HC2 HH2
      go_wp2_with fail
      refine (drawBelow 2 g (by omega) (by omega) _ HC4.out).mono ?_; rintro e w5 ⟨⟨y, hy, rfl⟩, hcu, hch⟩
      have HP5 := Lib.hid (HP4.out.chg hch fun b hb h => by unfold onlyB at h; omega)
      have HC5 := Lib.hid hcu; have HH5 := Lib.hid (HH4.out.trans (hch.more (S' := freshB g W.heap.size) fun k hk => .inl hk))
      clear hcu hch HP4 HC4 HH4
      go_wp2_with fail
      go_roundw
      case rel => exact ⟨xs ++ [((cell : Int), (xs.length : Int) + (x : Int) * 2)], cell + 1 + y, by go_num, by rw [List.length_append]; simp; omega, by rw [List.length_append]; go_num, by rw [List.length_append]; simp; omega, HP5.out, HC5.out, HH5.out⟩
      case measure => simp [intOf]; omega
    · have hcc := chg_only hch
      have HP := Lib.hid hp; have HC := Lib.hid hcu; have HH := Lib.hid hcc
      clear hp hcu hch hcc
      go_wp2_with fail
      go_ret
      exact ⟨⟨xs, _, rfl, HP.out, by omega⟩, HC.out, HH.out⟩

/-- A drawn value put into the result's variable. -/
theorem drawn_wrap {M g : Nat} {W w1 : World} {o : Obj} {k n s : Int} {t : ByteArray} {l : List Vl} {cl : List ByteArray} {rs : List Rw} {v4 v5 v6 : Value} {r : Ending}
    (hr : r = .returned (.agg #[.int .i64 k, .int .i64 n, .int .i64 s, .string t, v4, v5, v6])) (hs : SmallD k n s t) (hcost : (Vl.mk k n s t l cl rs).cost ≤ M) (hT : DrawnT (W.alloc o).heap.size w1 l cl rs v4 v5 v6)
    (hcu : CurAt w1 g) (hch : Chg (onlyB g) (W.alloc o) w1) (hlt : g < W.heap.size) (vs : List Value) : DrawnR M g W (setFrom w1 W.heap.size 0 vs) r :=
  fill_endR hr (by rw [World.size_alloc] at hT; exact hT) hs hcost hcu ((((Later.rfl' W).alloc o).chg _).trans (hch.more fun k hk => .inl hk)) hlt vs
def ZC7 : Array Value := #[.int .i64 0, .int .i64 0, .int .i64 0, .string ⟨#[]⟩, .slice none 0 0, .slice none 0 0, .slice none 0 0]
theorem box_only {W w1 : World} {g : Nat} {cs : Array Value} {t : TypeId} (hch : Chg (onlyB g) (W.alloc (.cells cs t)) w1) (hlt : g < W.heap.size) : Box w1 W.heap.size cs.toList :=
  (box_alloc W cs t).chg hch fun h => by unfold onlyB at h; omega
def elM : Nat → Nat
  | 0 => 100
  | d + 1 => if d = 0 then 100 else 8 + 8 * elM d
theorem elM_ge : ∀ d, 100 ≤ elM d
  | 0 => Nat.le_refl _
  | d + 1 => by
    have := elM_ge d
    rw [elM]
    split <;> omega
def ElQ (d : Nat) : Prop := ∀ (g : Nat) (W : World), CurAt W g → Calls Try.prog 170 #[.pointer (some ⟨g, 0, none⟩), .int .i64 (d : Int)] W fun r w' => DrawnR (elM d) g W w' r
def LiQ (d : Nat) : Prop := ∀ (g : Nat) (W : World), CurAt W g → Calls Try.prog 135 #[.pointer (some ⟨g, 0, none⟩), .int .i64 (d : Int)] W fun r w' => DrawnR (8 + 8 * elM d) g W w' r
def lenList : List Int := [0, 1, 2, 3, 3, 4, 5, 8]
theorem lenList_in : ∀ x ∈ lenList, 0 ≤ x ∧ x ≤ 8 := by decide


set_option maxHeartbeats 4000000 in
theorem elem_of (d : Nat) (hd : d ≤ 10) (h : 1 ≤ d → LiQ d) : ElQ (d + 1) := by
  intro g W hc
  have hlt := hc.lt
  have HC0 := Lib.hid (hc.later ((Later.rfl' W).alloc (.cells #[.int .i64 0, .int .i64 0, .int .i64 0, .string ⟨#[]⟩, .slice none 0 0, .slice none 0 0, .slice none 0 0] 28)))
  have HH0 := Lib.hid (Chg.rfl' (onlyB g) (W.alloc (.cells #[.int .i64 0, .int .i64 0, .int .i64 0, .string ⟨#[]⟩, .slice none 0 0, .slice none 0 0, .slice none 0 0] 28)))
  clear hc
  rcases Nat.eq_zero_or_pos d with rfl | hd1
  · have HC1 := HC0; have HH1 := HH0
    clear HC0 HH0 h
    go_enter Try.func170, Try.ntmps170
    go_wp2_with fail
    refine (drawOnce 4 g (by omega) (by omega) _ HC1.out).mono ?_; rintro e wq ⟨⟨q, rfl⟩, hcu, hch⟩
    have HCX := Lib.hid hcu; have HHX := Lib.hid (HH1.out.trans hch)
    clear hcu hch HC1 HH1
    cases q with
    | true =>
      go_wp2_with fail
      refine (drawText g _ HCX.out).mono ?_; rintro e w2 ⟨⟨x, hx, rfl⟩, hcu, hch⟩
      have HX := Lib.hid hx; have HC2 := Lib.hid hcu; have HH2 := Lib.hid (HHX.out.trans hch)
      clear hx hcu hch HCX HHX
      go_wp2_with fail
      refine (specTextValue x _).mono ?_; rintro e w3 ⟨rfl, hb3⟩
      unfold leafA
      have hch3 : Chg (onlyB g) (W.alloc (.cells #[.int .i64 0, .int .i64 0, .int .i64 0, .string ⟨#[]⟩, .slice none 0 0, .slice none 0 0, .slice none 0 0] 28)) w3 := HH2.out.trans (hb3.chg _)
      have hR := box_only hch3 hlt
      have rc0 := hR.cell (j := 0) rfl
      have y0 := hR.free 0
      have rc1 := hR.cell (j := 1) rfl
      have y1 := hR.free 1
      have rc2 := hR.cell (j := 2) rfl
      have y2 := hR.free 2
      have rc3 := hR.cell (j := 3) rfl
      have y3 := hR.free 3
      have rc4 := hR.cell (j := 4) rfl
      have y4 := hR.free 4
      have rc5 := hR.cell (j := 5) rfl
      have y5 := hR.free 5
      have rc6 := hR.cell (j := 6) rfl
      have y6 := hR.free 6
      have wz := hR.lt
      have HC := Lib.hid (HC2.out.later hb3); have HH := Lib.hid hch3
      clear hR hch3 hb3 HC2 HH2
      go_wp2_with fail
      exact bodyPost_ret (v := .agg #[.int .i64 2, .int .i64 0, .int .i64 0, .string x, .slice none 0 0, .slice none 0 0, .slice none 0 0]) (by simp [results, Try.results170, go_sem, rc0, rc1, rc2, rc3, rc4, rc5, rc6]) rfl (drawn_wrap rfl (by have := HX.out; unfold SmallD; omega) (Nat.le_trans (by have := cost_leaf 2 0 0 x; have := HX.out; unfold leafD at *; omega) (elM_ge _)) (DrawnT.nils _ _) HC.out HH.out hlt [.int .i64 2, .int .i64 0, .int .i64 0, .string x, .slice none 0 0, .slice none 0 0, .slice none 0 0])
    | false =>
      go_wp2_with fail
      refine (drawNum g _ HCX.out).mono ?_; rintro e w2 ⟨⟨x, hx, rfl⟩, hcu, hch⟩
      have HX := Lib.hid hx; have HC2 := Lib.hid hcu; have HH2 := Lib.hid (HHX.out.trans hch)
      clear hx hcu hch HCX HHX
      go_wp2_with fail
      refine (specNumberValue x _).mono ?_; rintro e w3 ⟨rfl, hb3⟩
      unfold leafA
      have hch3 : Chg (onlyB g) (W.alloc (.cells #[.int .i64 0, .int .i64 0, .int .i64 0, .string ⟨#[]⟩, .slice none 0 0, .slice none 0 0, .slice none 0 0] 28)) w3 := HH2.out.trans (hb3.chg _)
      have hR := box_only hch3 hlt
      have rc0 := hR.cell (j := 0) rfl
      have y0 := hR.free 0
      have rc1 := hR.cell (j := 1) rfl
      have y1 := hR.free 1
      have rc2 := hR.cell (j := 2) rfl
      have y2 := hR.free 2
      have rc3 := hR.cell (j := 3) rfl
      have y3 := hR.free 3
      have rc4 := hR.cell (j := 4) rfl
      have y4 := hR.free 4
      have rc5 := hR.cell (j := 5) rfl
      have y5 := hR.free 5
      have rc6 := hR.cell (j := 6) rfl
      have y6 := hR.free 6
      have wz := hR.lt
      have HC := Lib.hid (HC2.out.later hb3); have HH := Lib.hid hch3
      clear hR hch3 hb3 HC2 HH2
      go_wp2_with fail
      exact bodyPost_ret (v := .agg #[.int .i64 1, .int .i64 x, .int .i64 0, .string ⟨#[]⟩, .slice none 0 0, .slice none 0 0, .slice none 0 0]) (by simp [results, Try.results170, go_sem, rc0, rc1, rc2, rc3, rc4, rc5, rc6]) rfl (drawn_wrap rfl (by have := HX.out; unfold SmallD; refine ⟨by omega, by omega, by omega, by decide⟩) (Nat.le_trans (by have := cost_leaf 1 x 0 ⟨#[]⟩; have : (⟨#[]⟩ : ByteArray).size = 0 := rfl; unfold leafD at *; omega) (elM_ge _)) (DrawnT.nils _ _) HC.out HH.out hlt [.int .i64 1, .int .i64 x, .int .i64 0, .string ⟨#[]⟩, .slice none 0 0, .slice none 0 0, .slice none 0 0])
  · have HREC := Lib.hid (h hd1)
    have hdi : (1 : Int) ≤ (d : Int) := by omega
    have hdm : ((d + 1 : Nat) : Int) - 1 = (d : Int) := by omega
    have hM : 8 + 8 * elM d ≤ elM (d + 1) := by rw [elM, if_neg (by omega)]; exact Nat.le_refl _
    have HM := Lib.hid hM
    have hcast : ((d + 1 : Nat) : Int) = (d : Int) + 1 := by omega
    rw [hcast]
    clear h hM hdm hcast
    go_enter Try.func170, Try.ntmps170
    go_wp2_with fail
    refine (drawOnce 4 g (by omega) (by omega) _ HC0.out).mono ?_; rintro e wp ⟨⟨q, rfl⟩, hcu, hch⟩
    have HC1 := Lib.hid hcu; have HH1 := Lib.hid (HH0.out.trans hch)
    clear hcu hch HC0 HH0
    cases q with
    | true =>
      go_wp2_with fail
      refine (HREC.out g _ HC1.out).mono ?_; rintro e w3 ⟨⟨k, n, s, t, l, cl, rs, v4, v5, v6, rfl, hsm, hcost, hT⟩, hcu, hch0⟩
      have hch : Chg (onlyB g) (W.alloc (.cells #[.int .i64 0, .int .i64 0, .int .i64 0, .string ⟨#[]⟩, .slice none 0 0, .slice none 0 0, .slice none 0 0] 28)) w3 := HH1.out.trans hch0
      have hTb : DrawnT (W.alloc (.cells #[.int .i64 0, .int .i64 0, .int .i64 0, .string ⟨#[]⟩, .slice none 0 0, .slice none 0 0, .slice none 0 0] 28)).heap.size w3 l cl rs v4 v5 v6 := hT.base HH1.out.size
      have hdr : DrawnR (8 + 8 * elM d) g (W.alloc (.cells #[.int .i64 0, .int .i64 0, .int .i64 0, .string ⟨#[]⟩, .slice none 0 0, .slice none 0 0, .slice none 0 0] 28)) w3 (.returned (.agg #[.int .i64 k, .int .i64 n, .int .i64 s, .string t, v4, v5, v6])) := ⟨⟨k, n, s, t, l, cl, rs, v4, v5, v6, rfl, hsm, hcost, hTb⟩, hcu, hch⟩
      obtain ⟨A4, c4, A5, c5, A6, c6, rfl, rfl, rfl⟩ := hT.shape
      have hR := box_only hch hlt
      have rc0 := hR.cell (j := 0) rfl
      have y0 := hR.free 0
      have rc1 := hR.cell (j := 1) rfl
      have y1 := hR.free 1
      have rc2 := hR.cell (j := 2) rfl
      have y2 := hR.free 2
      have rc3 := hR.cell (j := 3) rfl
      have y3 := hR.free 3
      have rc4 := hR.cell (j := 4) rfl
      have y4 := hR.free 4
      have rc5 := hR.cell (j := 5) rfl
      have y5 := hR.free 5
      have rc6 := hR.cell (j := 6) rfl
      have y6 := hR.free 6
      have wz := hR.lt
      have HS := Lib.hid hsm; have HCO := Lib.hid hcost; have HT := Lib.hid hTb; have HC := Lib.hid hcu; have HH := Lib.hid hch
      clear hR hsm hcost hT hTb hcu hch hch0 hdr HH1 HC1 HREC
      go_wp2_with fail
      exact bodyPost_ret (v := .agg #[.int .i64 k, .int .i64 n, .int .i64 s, .string t, .slice A4 l.length c4, .slice A5 cl.length c5, .slice A6 rs.length c6]) (by simp [results, Try.results170, go_sem, rc0, rc1, rc2, rc3, rc4, rc5, rc6]) rfl (drawn_wrap rfl HS.out (Nat.le_trans HCO.out HM.out) HT.out HC.out HH.out hlt [.int .i64 k, .int .i64 n, .int .i64 s, .string t, .slice A4 l.length c4, .slice A5 cl.length c5, .slice A6 rs.length c6])
    | false =>
      clear HREC HM
      go_wp2_with fail
      refine (drawOnce 4 g (by omega) (by omega) _ HC1.out).mono ?_; rintro e wq ⟨⟨q, rfl⟩, hcu, hch⟩
      have HCX := Lib.hid hcu; have HHX := Lib.hid (HH1.out.trans hch)
      clear hcu hch HC1 HH1
      cases q with
      | true =>
        go_wp2_with fail
        refine (drawText g _ HCX.out).mono ?_; rintro e w2 ⟨⟨x, hx, rfl⟩, hcu, hch⟩
        have HX := Lib.hid hx; have HC2 := Lib.hid hcu; have HH2 := Lib.hid (HHX.out.trans hch)
        clear hx hcu hch HCX HHX
        go_wp2_with fail
        refine (specTextValue x _).mono ?_; rintro e w3 ⟨rfl, hb3⟩
        unfold leafA
        have hch3 : Chg (onlyB g) (W.alloc (.cells #[.int .i64 0, .int .i64 0, .int .i64 0, .string ⟨#[]⟩, .slice none 0 0, .slice none 0 0, .slice none 0 0] 28)) w3 := HH2.out.trans (hb3.chg _)
        have hR := box_only hch3 hlt
        have rc0 := hR.cell (j := 0) rfl
        have y0 := hR.free 0
        have rc1 := hR.cell (j := 1) rfl
        have y1 := hR.free 1
        have rc2 := hR.cell (j := 2) rfl
        have y2 := hR.free 2
        have rc3 := hR.cell (j := 3) rfl
        have y3 := hR.free 3
        have rc4 := hR.cell (j := 4) rfl
        have y4 := hR.free 4
        have rc5 := hR.cell (j := 5) rfl
        have y5 := hR.free 5
        have rc6 := hR.cell (j := 6) rfl
        have y6 := hR.free 6
        have wz := hR.lt
        have HC := Lib.hid (HC2.out.later hb3); have HH := Lib.hid hch3
        clear hR hch3 hb3 HC2 HH2
        go_wp2_with fail
        exact bodyPost_ret (v := .agg #[.int .i64 2, .int .i64 0, .int .i64 0, .string x, .slice none 0 0, .slice none 0 0, .slice none 0 0]) (by simp [results, Try.results170, go_sem, rc0, rc1, rc2, rc3, rc4, rc5, rc6]) rfl (drawn_wrap rfl (by have := HX.out; unfold SmallD; omega) (Nat.le_trans (by have := cost_leaf 2 0 0 x; have := HX.out; unfold leafD at *; omega) (elM_ge _)) (DrawnT.nils _ _) HC.out HH.out hlt [.int .i64 2, .int .i64 0, .int .i64 0, .string x, .slice none 0 0, .slice none 0 0, .slice none 0 0])
      | false =>
        go_wp2_with fail
        refine (drawNum g _ HCX.out).mono ?_; rintro e w2 ⟨⟨x, hx, rfl⟩, hcu, hch⟩
        have HX := Lib.hid hx; have HC2 := Lib.hid hcu; have HH2 := Lib.hid (HHX.out.trans hch)
        clear hx hcu hch HCX HHX
        go_wp2_with fail
        refine (specNumberValue x _).mono ?_; rintro e w3 ⟨rfl, hb3⟩
        unfold leafA
        have hch3 : Chg (onlyB g) (W.alloc (.cells #[.int .i64 0, .int .i64 0, .int .i64 0, .string ⟨#[]⟩, .slice none 0 0, .slice none 0 0, .slice none 0 0] 28)) w3 := HH2.out.trans (hb3.chg _)
        have hR := box_only hch3 hlt
        have rc0 := hR.cell (j := 0) rfl
        have y0 := hR.free 0
        have rc1 := hR.cell (j := 1) rfl
        have y1 := hR.free 1
        have rc2 := hR.cell (j := 2) rfl
        have y2 := hR.free 2
        have rc3 := hR.cell (j := 3) rfl
        have y3 := hR.free 3
        have rc4 := hR.cell (j := 4) rfl
        have y4 := hR.free 4
        have rc5 := hR.cell (j := 5) rfl
        have y5 := hR.free 5
        have rc6 := hR.cell (j := 6) rfl
        have y6 := hR.free 6
        have wz := hR.lt
        have HC := Lib.hid (HC2.out.later hb3); have HH := Lib.hid hch3
        clear hR hch3 hb3 HC2 HH2
        go_wp2_with fail
        exact bodyPost_ret (v := .agg #[.int .i64 1, .int .i64 x, .int .i64 0, .string ⟨#[]⟩, .slice none 0 0, .slice none 0 0, .slice none 0 0]) (by simp [results, Try.results170, go_sem, rc0, rc1, rc2, rc3, rc4, rc5, rc6]) rfl (drawn_wrap rfl (by have := HX.out; unfold SmallD; refine ⟨by omega, by omega, by omega, by decide⟩) (Nat.le_trans (by have := cost_leaf 1 x 0 ⟨#[]⟩; have : (⟨#[]⟩ : ByteArray).size = 0 := rfl; unfold leafD at *; omega) (elM_ge _)) (DrawnT.nils _ _) HC.out HH.out hlt [.int .i64 1, .int .i64 x, .int .i64 0, .string ⟨#[]⟩, .slice none 0 0, .slice none 0 0, .slice none 0 0])


set_option maxHeartbeats 8000000 in
theorem list_of (d : Nat) (h : ElQ d) : LiQ d := by
  intro g W hc
  have hlt := hc.lt
  obtain ⟨i0, hi, hz0, hz1, hz2⟩ := info_parts info_value
  have HEL := Lib.hid h
  have CP := fun w b (hb : b ≠ g) (hcu : CurAt w g) (B : Box w b (lenList.map (.int .i64))) => drawPickInt g b lenList hb (by decide) (by decide) w hcu B
  have HCP := Lib.hid CP
  have HCU := Lib.hid hc
  obtain ⟨E, hE⟩ : ∃ E, E = elM d := ⟨_, rfl⟩
  have HE := Lib.hid hE
  clear hc h CP hE
  go_enter Try.func135, Try.ntmps135
  have BL : Box (((W.alloc (.cells #[.int .i64 0, .int .i64 0, .int .i64 0, .string ⟨#[]⟩, .slice none 0 0, .slice none 0 0, .slice none 0 0] 28)).alloc (.cells #[.int .i64 3, .int .i64 0, .int .i64 0, .string ⟨#[]⟩, .slice none 0 0, .slice none 0 0, .slice none 0 0] 28)).alloc (.cells #[.int .i64 0, .int .i64 1, .int .i64 2, .int .i64 3, .int .i64 3, .int .i64 4, .int .i64 5, .int .i64 8] 3)) (W.heap.size + 1 + 1) (lenList.map (.int .i64)) := by
    have h := box_alloc ((W.alloc (.cells #[.int .i64 0, .int .i64 0, .int .i64 0, .string ⟨#[]⟩, .slice none 0 0, .slice none 0 0, .slice none 0 0] 28)).alloc (.cells #[.int .i64 3, .int .i64 0, .int .i64 0, .string ⟨#[]⟩, .slice none 0 0, .slice none 0 0, .slice none 0 0] 28)) #[.int .i64 0, .int .i64 1, .int .i64 2, .int .i64 3, .int .i64 3, .int .i64 4, .int .i64 5, .int .i64 8] 3
    rw [World.size_alloc, World.size_alloc] at h
    exact h
  have HBL := Lib.hid BL
  have HCX := Lib.hid (HCU.out.later ((((Later.rfl' W).alloc (.cells #[.int .i64 0, .int .i64 0, .int .i64 0, .string ⟨#[]⟩, .slice none 0 0, .slice none 0 0, .slice none 0 0] 28)).alloc (.cells #[.int .i64 3, .int .i64 0, .int .i64 0, .string ⟨#[]⟩, .slice none 0 0, .slice none 0 0, .slice none 0 0] 28)).alloc (.cells #[.int .i64 0, .int .i64 1, .int .i64 2, .int .i64 3, .int .i64 3, .int .i64 4, .int .i64 5, .int .i64 8] 3)))
  clear BL
  go_wp2_with fail
  refine (HCP.out _ (W.heap.size + 1 + 1) (by omega) HCX.out HBL.out).mono ?_; rintro e w1 ⟨⟨m0, hm, rfl⟩, hcu, hch⟩
  obtain ⟨hm0, hm8⟩ := lenList_in m0 hm
  obtain ⟨m, rfl⟩ : ∃ m : Nat, m0 = (m : Int) := ⟨m0.toNat, by omega⟩
  have hm8' : m ≤ 8 := by omega
  have BR : Box w1 W.heap.size [.int .i64 0, .int .i64 0, .int .i64 0, .string ⟨#[]⟩, .slice none 0 0, .slice none 0 0, .slice none 0 0] := (((box_alloc W #[.int .i64 0, .int .i64 0, .int .i64 0, .string ⟨#[]⟩, .slice none 0 0, .slice none 0 0, .slice none 0 0] 28).later ((Later.rfl' _).alloc _)).later ((Later.rfl' _).alloc _)).chg hch (fun h => by unfold onlyB at h; omega)
  have BV : Box w1 (W.heap.size + 1) [.int .i64 3, .int .i64 0, .int .i64 0, .string ⟨#[]⟩, .slice none 0 0, .slice none 0 0, .slice none 0 0] := by
    have h := ((box_alloc (W.alloc (.cells #[.int .i64 0, .int .i64 0, .int .i64 0, .string ⟨#[]⟩, .slice none 0 0, .slice none 0 0, .slice none 0 0] 28)) #[.int .i64 3, .int .i64 0, .int .i64 0, .string ⟨#[]⟩, .slice none 0 0, .slice none 0 0, .slice none 0 0] 28).later ((Later.rfl' _).alloc _)).chg hch (fun h => by unfold onlyB at h; simp at h; omega)
    rw [World.size_alloc] at h
    exact h
  have hsz : W.heap.size + 3 ≤ w1.heap.size := by have := hch.size; simp at this; omega
  have HR0 := Lib.hid BR; have HV0 := Lib.hid BV; have HCU1 := Lib.hid hcu
  have HCH := Lib.hid ((((((Later.rfl' W).alloc _).alloc _).alloc _).chg (freshB g W.heap.size)).trans (hch.more fun k hk => .inl hk))
  clear BR BV hcu hch HCU HCP hm hm0 hm8 HBL HCX
  go_wp2_with fail
  go_loopw [7] (fun i wr => ∃ (l : List Vl) (lv : Value), i = .int .i64 (l.length : Int) ∧ l.length ≤ m ∧ Box wr W.heap.size [.int .i64 0, .int .i64 0, .int .i64 0, .string ⟨#[]⟩, .slice none 0 0, .slice none 0 0, .slice none 0 0] ∧ Box wr (W.heap.size + 1) [.int .i64 3, .int .i64 0, .int .i64 0, .string ⟨#[]⟩, lv, .slice none 0 0, .slice none 0 0] ∧ Pushed (W.heap.size + 2) wr 28 7 encV l lv ∧ (∀ x ∈ l, x.cost ≤ E) ∧ CurAt wr g ∧ Chg (freshB g W.heap.size) W wr ∧ W.heap.size + 2 ≤ wr.heap.size) (fun i _ => m - (intOf i).toNat)
  case atStart => exact ⟨[], .slice none 0 0, rfl, Nat.zero_le _, HR0.out, HV0.out, Pushed.row0 encV (World.ownsRow_nil _ _ _ _), fun x hx => by simp at hx, HCU1.out, HCH.out, by omega⟩
  case round =>
    obtain ⟨l, lv, rfl, hj, hR, hV, hP, hsm, hcu, hch, hsz2⟩ := hrel
    have HR := Lib.hid hR; have HV := Lib.hid hV; have HP := Lib.hid hP; have HSM := Lib.hid hsm; have HC := Lib.hid hcu; have HH := Lib.hid hch
    by_cases hlt2 : l.length < m
    · have hki : (l.length : Int) < (m : Int) := by omega
      have hk4 := hV.cell (j := 4) rfl
      have hz := hV.lt
      have hjn : (l.length + 1) * 112 ≤ 140737488355328 := by omega
      have hjm : l.length + 1 ≤ maxLen := by unfold maxLen; omega
      clear hR hV hP hsm hcu hch HR0 HV0 HCU1 HCH
      go_wp2_with fail
      go_region_law (first
        | (refine step_append_lies _ rfl (.tmp 18) (.tmp 22) 24 rfl (W.heap.size + 2) 28 i0 (.agg #[.int .i64 0, .int .i64 0, .int .i64 0, .string ByteArray.empty, .slice none 0 0, .slice none 0 0, .slice none 0 0]) 7 112 Try.underlying24 hi hz0 hz1 hz2 rfl (by decide) lv l.length xs (by simp [Act.eval, Act.put]) a1 ⟨w3.heap.size, 0, none⟩ 1 1 [.int .i64 k, .int .i64 n, .int .i64 s, .string t, .slice A4 l1.length c4, .slice A5 cl.length c5, .slice A6 rs.length c6] (by simp [Act.eval, Act.put]) a2 a4.out a3.out (by omega) hjm hjn a5 (w3.heap.size + 1) (by simp) ?_; intro gg cap w4 ho4 hg4 hat4 hlt4; obtain ⟨B4, HF⟩ := a6.out gg cap w4 ho4 hg4 hat4; have m4 := B4.cell (j := 4) rfl; have mf := B4.free 4; clear ho4 hg4 hat4 B4)
        | (go_simp; go_at_call 170; refine (HEL.out g _ (HC.out.later (Later.rfl' _).drew)).mono ?_; rintro e w3 ⟨⟨k, n, s, t, l1, cl, rs, v4, v5, v6, rfl, hsd, hcost, hT⟩, hcu3, hch3⟩; obtain ⟨A4, c4, A5, c5, A6, c6, rfl, rfl, rfl⟩ := hT.shape; have hb := hsd.between; have HC3 := Lib.hid hcu3; have HCH3 := Lib.hid ((((Later.rfl' wr).drew).chg (onlyB g)).trans hch3); have HCO := Lib.hid hcost; have HALL := Lib.hid (push_all (p := 4) encV_len 28 HV.out HP.out (Nat.lt_succ_self _) hsz2 HCH3.out (fun b hb => by unfold onlyB at hb; omega) (hT.owns hb.1 hb.2.1 hb.2.2.1 hb.2.2.2)); obtain ⟨b3, xs, a1, a2, a3, a4, a5, a6⟩ := HALL.out; have k3 := b3.cell (j := 4) rfl; have z3 := b3.lt; replace a3 := Lib.hid a3; replace a4 := Lib.hid a4; replace a6 := Lib.hid a6; clear b3 HALL hcu3 hch3 hT hb hsd hcost))
      all_goals
        (obtain ⟨D1, D2, D3, D4⟩ := fill_done hlt HR.out HH.out HCH3.out HC3.out HF.out.2.2
         have E1 := Lib.hid D1; have E2 := Lib.hid D2; have E3 := Lib.hid D3
         clear D1 D2 D3 k3 z3 hk4 hz a1 a2 a3 a4 a5 a6 m4 mf
         go_wp2_with fail
         go_roundw
         case rel => exact ⟨l ++ [.mk k n s t l1 cl rs], _, by rw [List.length_append]; go_num, by rw [List.length_append]; simp; omega, E1.out, HF.out.2.1, HF.out.1, (fun y hy => by
           rcases List.mem_append.1 hy with h | h
           · exact HSM.out y h
           · rw [List.mem_singleton.1 h, HE.out]; exact HCO.out), E2.out, E3.out, by omega⟩
         case measure => simp [intOf]; omega)
    · obtain ⟨A, c, rfl⟩ := pushed_shape hP
      have HO := Lib.hid ((DrawnT.ofList hP).base (lo' := W.heap.size + 1) (Nat.le_succ _))
      have hcost : Hid ((listD l).cost ≤ 8 + 8 * elM d) := by
        have h1 := sum_le hsm
        have h2 := cost_list l
        have h3 : l.length * E ≤ 8 * E := Nat.mul_le_mul_right _ (by omega)
        unfold Hid
        rw [← HE.out]
        omega
      have r0 := hR.cell (j := 0) rfl
      have f0 := hR.free 0
      have v0 := hV.cell (j := 0) rfl
      have r1 := hR.cell (j := 1) rfl
      have f1 := hR.free 1
      have v1 := hV.cell (j := 1) rfl
      have r2 := hR.cell (j := 2) rfl
      have f2 := hR.free 2
      have v2 := hV.cell (j := 2) rfl
      have r3 := hR.cell (j := 3) rfl
      have f3 := hR.free 3
      have v3 := hV.cell (j := 3) rfl
      have r4 := hR.cell (j := 4) rfl
      have f4 := hR.free 4
      have v4 := hV.cell (j := 4) rfl
      have r5 := hR.cell (j := 5) rfl
      have f5 := hR.free 5
      have v5 := hV.cell (j := 5) rfl
      have r6 := hR.cell (j := 6) rfl
      have f6 := hR.free 6
      have v6 := hV.cell (j := 6) rfl
      have rz := hR.lt
      have vz := hV.lt
      clear hR hV hP hsm hcu hch HR0 HV0 HCU1 HCH HP HR HV
      go_wp2_with fail
      exact bodyPost_ret (v := .agg #[.int .i64 3, .int .i64 0, .int .i64 0, .string ⟨#[]⟩, .slice A l.length c, .slice none 0 0, .slice none 0 0]) (by simp [results, Try.results135, go_sem, r0, r1, r2, r3, r4, r5, r6]) rfl
        (fill_endR rfl HO.out (by unfold SmallD; decide) hcost.out HC.out HH.out hlt [.int .i64 3, .int .i64 0, .int .i64 0, .string ⟨#[]⟩, .slice A l.length c, .slice none 0 0, .slice none 0 0])

theorem elem0 : ElQ 1 := elem_of 0 (by omega) (fun h => by omega)
theorem drawList (d : Nat) (hd : d ≤ 10) : LiQ (d + 1) := by
  induction d with
  | zero => exact list_of 1 elem0
  | succ d ih => exact list_of (d + 2) (elem_of (d + 1) (by omega) fun _ => ih (by omega))
end Go.Proofs.Ytghemlokpfipoaa
