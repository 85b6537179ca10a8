/-
  Draws of values: l3From, l3Element2, l3DrawList: the walks. Draws of values: l3DrawTable: the walk. Draws of values: l3Draw: the walk.
-/
import Derived.Test.YtghemlokpfipoaaYK8
import Derived.Test.YtghemlokpfipoaaYDQ
import Derived.Test.YtghemlokpfipoaaYCP1
import Derived.Test.YtghemlokpfipoaaYSA
import Derived.Deep.DeepCutAuto
namespace Go.Proofs.Ytghemlokpfipoaa
open Go.ChangeShapes Go.WideShapes Go.ChangeAt Go.RowKit
set_option linter.unusedVariables false
set_option linter.unusedSimpArgs false
set_option maxRecDepth 100000

/-- A drawn slice of origins. -/
def FromR (g : Nat) (W w' : World) (r : Ending) : Prop := (∃ xs v, r = .returned v ∧ Pushed W.heap.size w' 101 2 encO xs v ∧ xs.length ≤ 3) ∧ CurAt w' g ∧ Chg (onlyB g) W w'
set_option maxHeartbeats 2000000 in
theorem drawFrom (g : Nat) (W : World) (hc : CurAt W g) : Calls Try.prog 126 #[.pointer (some ⟨g, 0, none⟩)] W fun r w' => FromR g W w' r := by
  have hlt := hc.lt
  have HCU := Lib.hid (hc.later ((Later.rfl' W).alloc (.cells #[] 101)))
  obtain ⟨i0, hi, hz0, hz1, hz2⟩ := info_parts info_orig
  clear hc
  go_enter Try.func126, Try.ntmps126
  go_wp2_with fail
  refine (drawBelow 3 g (by omega) (by omega) _ HCU.out).mono ?_; rintro e w1 ⟨⟨m, hm, rfl⟩, hcu, hch⟩
  have hp0 : Pushed W.heap.size w1 101 2 encO [] (.slice (some ⟨W.heap.size, 0, none⟩) 0 0) :=
    (Pushed.row0 encO (World.ownsRow_made W #[] 0 (Nat.le_refl _) (Nat.zero_le _) rfl)).chg hch fun b hb h => by unfold onlyB at h; omega
  have hch0 : Chg (freshB g W.heap.size) W w1 := (((Later.rfl' W).alloc (.cells #[] 101)).chg _).trans (hch.more fun k hk => .inl hk)
  have HP := Lib.hid hp0; have H1 := Lib.hid hcu; have H2 := Lib.hid hch0
  clear hp0 hcu hch hch0 HCU
  go_wp2_with fail
  go_loopw [3, 4, 6] (fun o c i wr => ∃ (xs : List Org) (cell : Nat), c = .int .i64 (cell : Int) ∧ cell ≤ 1 + 2 * xs.length ∧ i = .int .i64 (xs.length : Int) ∧ xs.length ≤ m ∧ Pushed W.heap.size wr 101 2 encO xs o ∧ CurAt wr g ∧ Chg (freshB g W.heap.size) W wr) (fun _ _ i _ => m - (intOf i).toNat)
  case atStart => exact ⟨[], 1, rfl, by simp, rfl, Nat.zero_le _, HP.out, H1.out, H2.out⟩
  case round =>
    obtain ⟨xs, cell, rfl, hce, rfl, hj, hp, hcu, hch⟩ := hrel
    clear HP H1 H2
    by_cases hlt2 : xs.length < m
    · have hki : (xs.length : Int) < (m : Int) := by omega
      have hsz := hch.size
      have HP := Lib.hid hp; have HCU := Lib.hid hcu; have HCH := Lib.hid hch
      clear hp hcu hch
      go_wp2_with fail
      refine (drawBelow 2 g (by omega) (by omega) _ HCU.out).mono ?_; rintro e w2 ⟨⟨x, hx, rfl⟩, hcu, hch⟩
      have HC2 := Lib.hid hcu; have HH2 := Lib.hid hch
      have hsz2 := hch.size
      obtain ⟨ys, a1, a2, a3, a4, a5, a6⟩ := HP.out.ask encO_len hch (fun b hb h => by unfold onlyB at h; omega) hsz (x := ((cell : Int), (xs.length : Int) + (x : Int) * 2)) (us := [.int .i64 (cell : Int), .int .i64 ((xs.length : Int) + (x : Int) * 2)])
        (owns_leaves (S := anyB) (.cons (.int _ (by unfold Between64; omega)) (.cons (.int _ (by unfold Between64; omega)) .nil)) (by simp [encO])) 101
      have hlow := fun b (hb : some b = Value.ownBlock _) => (a1.lt b hb.symm).1
      have A3 := Lib.hid a3; have A4 := Lib.hid a4; have A6 := Lib.hid a6; have HLOW := Lib.hid hlow
      have hjn : (xs.length + 1) * 16 ≤ 140737488355328 := by omega
      have hjm : xs.length + 1 ≤ maxLen := by unfold maxLen; omega
      clear a3 a4 a6 hlow hcu hch
      go_wp2_with (at_builtin; refine wpList_append_lies _ rfl (.tmp 15) (.tmp 23) 52 rfl W.heap.size 101 i0 (.agg #[.int .i64 0, .int .i64 0]) 2 16 Try.underlying52 hi hz0 hz1 hz2 rfl (by decide) _ xs.length ys rfl a1 ⟨w2.heap.size, 0, none⟩ 1 1 [.int .i64 (cell : Int), .int .i64 ((xs.length : Int) + (x : Int) * 2)] rfl a2 A4.out A3.out (by omega) hjm hjn a5 (w2.heap.size + 1) (by simp) ?_)
      intro gg cap w4 ho4 hg4 hat4 hlt4
      have hp4 := A6.out gg cap w4 ho4 hg4 hat4
      have hg5 := chg_grown hg4
      have hcu4 : CurAt w4 g := (HC2.out.later ((Later.rfl' _).alloc _)).chg hg5 fun b hb he => by have := HLOW.out b he; omega
      have hch4 : Chg (freshB g W.heap.size) W w4 := ((HCH.out.trans (HH2.out.more (S' := freshB g W.heap.size) fun k hk => .inl hk)).trans (((Later.rfl' w2).alloc _).chg _)).trans (hg5.more fun k hk => .inr (HLOW.out k hk))
      have HP4 := Lib.hid hp4; have HC4 := Lib.hid hcu4; have HH4 := Lib.hid hch4
      clear ho4 hg4 hat4 hg5 hp4 hcu4 hch4 a1 a2 a5 A3 A4 A6 HLOW HP HCU HCH HC2 HH2
      go_wp2_with fail
      refine (drawBelow 2 g (by omega) (by omega) _ HC4.out).mono ?_; rintro e w5 ⟨⟨y, hy, rfl⟩, hcu, hch⟩
      have HP5 := Lib.hid (HP4.out.chg hch fun b hb h => by unfold onlyB at h; omega)
      have HC5 := Lib.hid hcu; have HH5 := Lib.hid (HH4.out.trans (hch.more (S' := freshB g W.heap.size) fun k hk => .inl hk))
      clear hcu hch HP4 HC4 HH4
      go_wp2_with fail
      go_roundw
      case rel => exact ⟨xs ++ [((cell : Int), (xs.length : Int) + (x : Int) * 2)], cell + 1 + y, by go_num, by rw [List.length_append]; simp; omega, by rw [List.length_append]; go_num, by rw [List.length_append]; simp; omega, HP5.out, HC5.out, HH5.out⟩
      case measure => simp [intOf]; omega
    · have hcc := chg_only hch
      have HP := Lib.hid hp; have HC := Lib.hid hcu; have HH := Lib.hid hcc
      clear hp hcu hch hcc
      go_wp2_with fail
      go_ret
      exact ⟨⟨xs, _, rfl, HP.out, by omega⟩, HC.out, HH.out⟩

/-- A drawn value put into the result's variable. -/
theorem drawn_wrap {M g : Nat} {W w1 : World} {o : Obj} {k n s : Int} {t : ByteArray} {l : List Vl} {cl : List ByteArray} {rs : List Rw} {v4 v5 v6 : Value} {r : Ending}
    (hr : r = .returned (.agg #[.int .i64 k, .int .i64 n, .int .i64 s, .string t, v4, v5, v6])) (hs : SmallD k n s t) (hcost : (Vl.mk k n s t l cl rs).cost ≤ M) (hT : DrawnT (W.alloc o).heap.size w1 l cl rs v4 v5 v6)
    (hcu : CurAt w1 g) (hch : Chg (onlyB g) (W.alloc o) w1) (hlt : g < W.heap.size) (vs : List Value) : DrawnR M g W (setFrom w1 W.heap.size 0 vs) r :=
  fill_endR hr (by rw [World.size_alloc] at hT; exact hT) hs hcost hcu ((((Later.rfl' W).alloc o).chg _).trans (hch.more fun k hk => .inl hk)) hlt vs
def ZC7 : Array Value := #[.int .i64 0, .int .i64 0, .int .i64 0, .string ⟨#[]⟩, .slice none 0 0, .slice none 0 0, .slice none 0 0]
theorem box_only {W w1 : World} {g : Nat} {cs : Array Value} {t : TypeId} (hch : Chg (onlyB g) (W.alloc (.cells cs t)) w1) (hlt : g < W.heap.size) : Box w1 W.heap.size cs.toList :=
  (box_alloc W cs t).chg hch fun h => by unfold onlyB at h; omega
def elM : Nat → Nat
  | 0 => 100
  | d + 1 => if d = 0 then 100 else 8 + 8 * elM d
theorem elM_ge : ∀ d, 100 ≤ elM d
  | 0 => Nat.le_refl _
  | d + 1 => by
    have := elM_ge d
    rw [elM]
    split <;> omega
def ElQ (d : Nat) : Prop := ∀ (g : Nat) (W : World), CurAt W g → Calls Try.prog 170 #[.pointer (some ⟨g, 0, none⟩), .int .i64 (d : Int)] W fun r w' => DrawnR (elM d) g W w' r
def LiQ (d : Nat) : Prop := ∀ (g : Nat) (W : World), CurAt W g → Calls Try.prog 135 #[.pointer (some ⟨g, 0, none⟩), .int .i64 (d : Int)] W fun r w' => DrawnR (8 + 8 * elM d) g W w' r
def lenList : List Int := [0, 1, 2, 3, 3, 4, 5, 8]
theorem lenList_in : ∀ x ∈ lenList, 0 ≤ x ∧ x ≤ 8 := by decide


set_option maxHeartbeats 4000000 in
theorem elem_of (d : Nat) (hd : d ≤ 10) (h : 1 ≤ d → LiQ d) : ElQ (d + 1) := by
  intro g W hc
  have hlt := hc.lt
  have HC0 := Lib.hid (hc.later ((Later.rfl' W).alloc (.cells #[.int .i64 0, .int .i64 0, .int .i64 0, .string ⟨#[]⟩, .slice none 0 0, .slice none 0 0, .slice none 0 0] 28)))
  have HH0 := Lib.hid (Chg.rfl' (onlyB g) (W.alloc (.cells #[.int .i64 0, .int .i64 0, .int .i64 0, .string ⟨#[]⟩, .slice none 0 0, .slice none 0 0, .slice none 0 0] 28)))
  clear hc
  rcases Nat.eq_zero_or_pos d with rfl | hd1
  · have HC1 := HC0; have HH1 := HH0
    clear HC0 HH0 h
    go_enter Try.func170, Try.ntmps170
    go_wp2_with fail
    refine (drawOnce 4 g (by omega) (by omega) _ HC1.out).mono ?_; rintro e wq ⟨⟨q, rfl⟩, hcu, hch⟩
    have HCX := Lib.hid hcu; have HHX := Lib.hid (HH1.out.trans hch)
    clear hcu hch HC1 HH1
    cases q with
    | true =>
      go_wp2_with fail
      refine (drawText g _ HCX.out).mono ?_; rintro e w2 ⟨⟨x, hx, rfl⟩, hcu, hch⟩
      have HX := Lib.hid hx; have HC2 := Lib.hid hcu; have HH2 := Lib.hid (HHX.out.trans hch)
      clear hx hcu hch HCX HHX
      go_wp2_with fail
      refine (specTextValue x _).mono ?_; rintro e w3 ⟨rfl, hb3⟩
      unfold leafA
      have hch3 : Chg (onlyB g) (W.alloc (.cells #[.int .i64 0, .int .i64 0, .int .i64 0, .string ⟨#[]⟩, .slice none 0 0, .slice none 0 0, .slice none 0 0] 28)) w3 := HH2.out.trans (hb3.chg _)
      have hR := box_only hch3 hlt
      have rc0 := hR.cell (j := 0) rfl
      have y0 := hR.free 0
      have rc1 := hR.cell (j := 1) rfl
      have y1 := hR.free 1
      have rc2 := hR.cell (j := 2) rfl
      have y2 := hR.free 2
      have rc3 := hR.cell (j := 3) rfl
      have y3 := hR.free 3
      have rc4 := hR.cell (j := 4) rfl
      have y4 := hR.free 4
      have rc5 := hR.cell (j := 5) rfl
      have y5 := hR.free 5
      have rc6 := hR.cell (j := 6) rfl
      have y6 := hR.free 6
      have wz := hR.lt
      have HC := Lib.hid (HC2.out.later hb3); have HH := Lib.hid hch3
      clear hR hch3 hb3 HC2 HH2
      go_wp2_with fail
      exact bodyPost_ret (v := .agg #[.int .i64 2, .int .i64 0, .int .i64 0, .string x, .slice none 0 0, .slice none 0 0, .slice none 0 0]) (by simp [results, Try.results170, go_sem, rc0, rc1, rc2, rc3, rc4, rc5, rc6]) rfl (drawn_wrap rfl (by have := HX.out; unfold SmallD; omega) (Nat.le_trans (by have := cost_leaf 2 0 0 x; have := HX.out; unfold leafD at *; omega) (elM_ge _)) (DrawnT.nils _ _) HC.out HH.out hlt [.int .i64 2, .int .i64 0, .int .i64 0, .string x, .slice none 0 0, .slice none 0 0, .slice none 0 0])
    | false =>
      go_wp2_with fail
      refine (drawNum g _ HCX.out).mono ?_; rintro e w2 ⟨⟨x, hx, rfl⟩, hcu, hch⟩
      have HX := Lib.hid hx; have HC2 := Lib.hid hcu; have HH2 := Lib.hid (HHX.out.trans hch)
      clear hx hcu hch HCX HHX
      go_wp2_with fail
      refine (specNumberValue x _).mono ?_; rintro e w3 ⟨rfl, hb3⟩
      unfold leafA
      have hch3 : Chg (onlyB g) (W.alloc (.cells #[.int .i64 0, .int .i64 0, .int .i64 0, .string ⟨#[]⟩, .slice none 0 0, .slice none 0 0, .slice none 0 0] 28)) w3 := HH2.out.trans (hb3.chg _)
      have hR := box_only hch3 hlt
      have rc0 := hR.cell (j := 0) rfl
      have y0 := hR.free 0
      have rc1 := hR.cell (j := 1) rfl
      have y1 := hR.free 1
      have rc2 := hR.cell (j := 2) rfl
      have y2 := hR.free 2
      have rc3 := hR.cell (j := 3) rfl
      have y3 := hR.free 3
      have rc4 := hR.cell (j := 4) rfl
      have y4 := hR.free 4
      have rc5 := hR.cell (j := 5) rfl
      have y5 := hR.free 5
      have rc6 := hR.cell (j := 6) rfl
      have y6 := hR.free 6
      have wz := hR.lt
      have HC := Lib.hid (HC2.out.later hb3); have HH := Lib.hid hch3
      clear hR hch3 hb3 HC2 HH2
      go_wp2_with fail
      exact bodyPost_ret (v := .agg #[.int .i64 1, .int .i64 x, .int .i64 0, .string ⟨#[]⟩, .slice none 0 0, .slice none 0 0, .slice none 0 0]) (by simp [results, Try.results170, go_sem, rc0, rc1, rc2, rc3, rc4, rc5, rc6]) rfl (drawn_wrap rfl (by have := HX.out; unfold SmallD; refine ⟨by omega, by omega, by omega, by decide⟩) (Nat.le_trans (by have := cost_leaf 1 x 0 ⟨#[]⟩; have : (⟨#[]⟩ : ByteArray).size = 0 := rfl; unfold leafD at *; omega) (elM_ge _)) (DrawnT.nils _ _) HC.out HH.out hlt [.int .i64 1, .int .i64 x, .int .i64 0, .string ⟨#[]⟩, .slice none 0 0, .slice none 0 0, .slice none 0 0])
  · have HREC := Lib.hid (h hd1)
    have hdi : (1 : Int) ≤ (d : Int) := by omega
    have hdm : ((d + 1 : Nat) : Int) - 1 = (d : Int) := by omega
    have hM : 8 + 8 * elM d ≤ elM (d + 1) := by rw [elM, if_neg (by omega)]; exact Nat.le_refl _
    have HM := Lib.hid hM
    have hcast : ((d + 1 : Nat) : Int) = (d : Int) + 1 := by omega
    rw [hcast]
    clear h hM hdm hcast
    go_enter Try.func170, Try.ntmps170
    go_wp2_with fail
    refine (drawOnce 4 g (by omega) (by omega) _ HC0.out).mono ?_; rintro e wp ⟨⟨q, rfl⟩, hcu, hch⟩
    have HC1 := Lib.hid hcu; have HH1 := Lib.hid (HH0.out.trans hch)
    clear hcu hch HC0 HH0
    cases q with
    | true =>
      go_wp2_with fail
      refine (HREC.out g _ HC1.out).mono ?_; rintro e w3 ⟨⟨k, n, s, t, l, cl, rs, v4, v5, v6, rfl, hsm, hcost, hT⟩, hcu, hch0⟩
      have hch : Chg (onlyB g) (W.alloc (.cells #[.int .i64 0, .int .i64 0, .int .i64 0, .string ⟨#[]⟩, .slice none 0 0, .slice none 0 0, .slice none 0 0] 28)) w3 := HH1.out.trans hch0
      have hTb : DrawnT (W.alloc (.cells #[.int .i64 0, .int .i64 0, .int .i64 0, .string ⟨#[]⟩, .slice none 0 0, .slice none 0 0, .slice none 0 0] 28)).heap.size w3 l cl rs v4 v5 v6 := hT.base HH1.out.size
      have hdr : DrawnR (8 + 8 * elM d) g (W.alloc (.cells #[.int .i64 0, .int .i64 0, .int .i64 0, .string ⟨#[]⟩, .slice none 0 0, .slice none 0 0, .slice none 0 0] 28)) w3 (.returned (.agg #[.int .i64 k, .int .i64 n, .int .i64 s, .string t, v4, v5, v6])) := ⟨⟨k, n, s, t, l, cl, rs, v4, v5, v6, rfl, hsm, hcost, hTb⟩, hcu, hch⟩
      obtain ⟨A4, c4, A5, c5, A6, c6, rfl, rfl, rfl⟩ := hT.shape
      have hR := box_only hch hlt
      have rc0 := hR.cell (j := 0) rfl
      have y0 := hR.free 0
      have rc1 := hR.cell (j := 1) rfl
      have y1 := hR.free 1
      have rc2 := hR.cell (j := 2) rfl
      have y2 := hR.free 2
      have rc3 := hR.cell (j := 3) rfl
      have y3 := hR.free 3
      have rc4 := hR.cell (j := 4) rfl
      have y4 := hR.free 4
      have rc5 := hR.cell (j := 5) rfl
      have y5 := hR.free 5
      have rc6 := hR.cell (j := 6) rfl
      have y6 := hR.free 6
      have wz := hR.lt
      have HS := Lib.hid hsm; have HCO := Lib.hid hcost; have HT := Lib.hid hTb; have HC := Lib.hid hcu; have HH := Lib.hid hch
      clear hR hsm hcost hT hTb hcu hch hch0 hdr HH1 HC1 HREC
      go_wp2_with fail
      exact bodyPost_ret (v := .agg #[.int .i64 k, .int .i64 n, .int .i64 s, .string t, .slice A4 l.length c4, .slice A5 cl.length c5, .slice A6 rs.length c6]) (by simp [results, Try.results170, go_sem, rc0, rc1, rc2, rc3, rc4, rc5, rc6]) rfl (drawn_wrap rfl HS.out (Nat.le_trans HCO.out HM.out) HT.out HC.out HH.out hlt [.int .i64 k, .int .i64 n, .int .i64 s, .string t, .slice A4 l.length c4, .slice A5 cl.length c5, .slice A6 rs.length c6])
    | false =>
      clear HREC HM
      go_wp2_with fail
      refine (drawOnce 4 g (by omega) (by omega) _ HC1.out).mono ?_; rintro e wq ⟨⟨q, rfl⟩, hcu, hch⟩
      have HCX := Lib.hid hcu; have HHX := Lib.hid (HH1.out.trans hch)
      clear hcu hch HC1 HH1
      cases q with
      | true =>
        go_wp2_with fail
        refine (drawText g _ HCX.out).mono ?_; rintro e w2 ⟨⟨x, hx, rfl⟩, hcu, hch⟩
        have HX := Lib.hid hx; have HC2 := Lib.hid hcu; have HH2 := Lib.hid (HHX.out.trans hch)
        clear hx hcu hch HCX HHX
        go_wp2_with fail
        refine (specTextValue x _).mono ?_; rintro e w3 ⟨rfl, hb3⟩
        unfold leafA
        have hch3 : Chg (onlyB g) (W.alloc (.cells #[.int .i64 0, .int .i64 0, .int .i64 0, .string ⟨#[]⟩, .slice none 0 0, .slice none 0 0, .slice none 0 0] 28)) w3 := HH2.out.trans (hb3.chg _)
        have hR := box_only hch3 hlt
        have rc0 := hR.cell (j := 0) rfl
        have y0 := hR.free 0
        have rc1 := hR.cell (j := 1) rfl
        have y1 := hR.free 1
        have rc2 := hR.cell (j := 2) rfl
        have y2 := hR.free 2
        have rc3 := hR.cell (j := 3) rfl
        have y3 := hR.free 3
        have rc4 := hR.cell (j := 4) rfl
        have y4 := hR.free 4
        have rc5 := hR.cell (j := 5) rfl
        have y5 := hR.free 5
        have rc6 := hR.cell (j := 6) rfl
        have y6 := hR.free 6
        have wz := hR.lt
        have HC := Lib.hid (HC2.out.later hb3); have HH := Lib.hid hch3
        clear hR hch3 hb3 HC2 HH2
        go_wp2_with fail
        exact bodyPost_ret (v := .agg #[.int .i64 2, .int .i64 0, .int .i64 0, .string x, .slice none 0 0, .slice none 0 0, .slice none 0 0]) (by simp [results, Try.results170, go_sem, rc0, rc1, rc2, rc3, rc4, rc5, rc6]) rfl (drawn_wrap rfl (by have := HX.out; unfold SmallD; omega) (Nat.le_trans (by have := cost_leaf 2 0 0 x; have := HX.out; unfold leafD at *; omega) (elM_ge _)) (DrawnT.nils _ _) HC.out HH.out hlt [.int .i64 2, .int .i64 0, .int .i64 0, .string x, .slice none 0 0, .slice none 0 0, .slice none 0 0])
      | false =>
        go_wp2_with fail
        refine (drawNum g _ HCX.out).mono ?_; rintro e w2 ⟨⟨x, hx, rfl⟩, hcu, hch⟩
        have HX := Lib.hid hx; have HC2 := Lib.hid hcu; have HH2 := Lib.hid (HHX.out.trans hch)
        clear hx hcu hch HCX HHX
        go_wp2_with fail
        refine (specNumberValue x _).mono ?_; rintro e w3 ⟨rfl, hb3⟩
        unfold leafA
        have hch3 : Chg (onlyB g) (W.alloc (.cells #[.int .i64 0, .int .i64 0, .int .i64 0, .string ⟨#[]⟩, .slice none 0 0, .slice none 0 0, .slice none 0 0] 28)) w3 := HH2.out.trans (hb3.chg _)
        have hR := box_only hch3 hlt
        have rc0 := hR.cell (j := 0) rfl
        have y0 := hR.free 0
        have rc1 := hR.cell (j := 1) rfl
        have y1 := hR.free 1
        have rc2 := hR.cell (j := 2) rfl
        have y2 := hR.free 2
        have rc3 := hR.cell (j := 3) rfl
        have y3 := hR.free 3
        have rc4 := hR.cell (j := 4) rfl
        have y4 := hR.free 4
        have rc5 := hR.cell (j := 5) rfl
        have y5 := hR.free 5
        have rc6 := hR.cell (j := 6) rfl
        have y6 := hR.free 6
        have wz := hR.lt
        have HC := Lib.hid (HC2.out.later hb3); have HH := Lib.hid hch3
        clear hR hch3 hb3 HC2 HH2
        go_wp2_with fail
        exact bodyPost_ret (v := .agg #[.int .i64 1, .int .i64 x, .int .i64 0, .string ⟨#[]⟩, .slice none 0 0, .slice none 0 0, .slice none 0 0]) (by simp [results, Try.results170, go_sem, rc0, rc1, rc2, rc3, rc4, rc5, rc6]) rfl (drawn_wrap rfl (by have := HX.out; unfold SmallD; refine ⟨by omega, by omega, by omega, by decide⟩) (Nat.le_trans (by have := cost_leaf 1 x 0 ⟨#[]⟩; have : (⟨#[]⟩ : ByteArray).size = 0 := rfl; unfold leafD at *; omega) (elM_ge _)) (DrawnT.nils _ _) HC.out HH.out hlt [.int .i64 1, .int .i64 x, .int .i64 0, .string ⟨#[]⟩, .slice none 0 0, .slice none 0 0, .slice none 0 0])


set_option maxHeartbeats 8000000 in
theorem list_of (d : Nat) (h : ElQ d) : LiQ d := by
  intro g W hc
  have hlt := hc.lt
  obtain ⟨i0, hi, hz0, hz1, hz2⟩ := info_parts info_value
  have HEL := Lib.hid h
  have CP := fun w b (hb : b ≠ g) (hcu : CurAt w g) (B : Box w b (lenList.map (.int .i64))) => drawPickInt g b lenList hb (by decide) (by decide) w hcu B
  have HCP := Lib.hid CP
  have HCU := Lib.hid hc
  obtain ⟨E, hE⟩ : ∃ E, E = elM d := ⟨_, rfl⟩
  have HE := Lib.hid hE
  clear hc h CP hE
  go_enter Try.func135, Try.ntmps135
  have BL : Box (((W.alloc (.cells #[.int .i64 0, .int .i64 0, .int .i64 0, .string ⟨#[]⟩, .slice none 0 0, .slice none 0 0, .slice none 0 0] 28)).alloc (.cells #[.int .i64 3, .int .i64 0, .int .i64 0, .string ⟨#[]⟩, .slice none 0 0, .slice none 0 0, .slice none 0 0] 28)).alloc (.cells #[.int .i64 0, .int .i64 1, .int .i64 2, .int .i64 3, .int .i64 3, .int .i64 4, .int .i64 5, .int .i64 8] 3)) (W.heap.size + 1 + 1) (lenList.map (.int .i64)) := by
    have h := box_alloc ((W.alloc (.cells #[.int .i64 0, .int .i64 0, .int .i64 0, .string ⟨#[]⟩, .slice none 0 0, .slice none 0 0, .slice none 0 0] 28)).alloc (.cells #[.int .i64 3, .int .i64 0, .int .i64 0, .string ⟨#[]⟩, .slice none 0 0, .slice none 0 0, .slice none 0 0] 28)) #[.int .i64 0, .int .i64 1, .int .i64 2, .int .i64 3, .int .i64 3, .int .i64 4, .int .i64 5, .int .i64 8] 3
    rw [World.size_alloc, World.size_alloc] at h
    exact h
  have HBL := Lib.hid BL
  have HCX := Lib.hid (HCU.out.later ((((Later.rfl' W).alloc (.cells #[.int .i64 0, .int .i64 0, .int .i64 0, .string ⟨#[]⟩, .slice none 0 0, .slice none 0 0, .slice none 0 0] 28)).alloc (.cells #[.int .i64 3, .int .i64 0, .int .i64 0, .string ⟨#[]⟩, .slice none 0 0, .slice none 0 0, .slice none 0 0] 28)).alloc (.cells #[.int .i64 0, .int .i64 1, .int .i64 2, .int .i64 3, .int .i64 3, .int .i64 4, .int .i64 5, .int .i64 8] 3)))
  clear BL
  go_wp2_with fail
  refine (HCP.out _ (W.heap.size + 1 + 1) (by omega) HCX.out HBL.out).mono ?_; rintro e w1 ⟨⟨m0, hm, rfl⟩, hcu, hch⟩
  obtain ⟨hm0, hm8⟩ := lenList_in m0 hm
  obtain ⟨m, rfl⟩ : ∃ m : Nat, m0 = (m : Int) := ⟨m0.toNat, by omega⟩
  have hm8' : m ≤ 8 := by omega
  have BR : Box w1 W.heap.size [.int .i64 0, .int .i64 0, .int .i64 0, .string ⟨#[]⟩, .slice none 0 0, .slice none 0 0, .slice none 0 0] := (((box_alloc W #[.int .i64 0, .int .i64 0, .int .i64 0, .string ⟨#[]⟩, .slice none 0 0, .slice none 0 0, .slice none 0 0] 28).later ((Later.rfl' _).alloc _)).later ((Later.rfl' _).alloc _)).chg hch (fun h => by unfold onlyB at h; omega)
  have BV : Box w1 (W.heap.size + 1) [.int .i64 3, .int .i64 0, .int .i64 0, .string ⟨#[]⟩, .slice none 0 0, .slice none 0 0, .slice none 0 0] := by
    have h := ((box_alloc (W.alloc (.cells #[.int .i64 0, .int .i64 0, .int .i64 0, .string ⟨#[]⟩, .slice none 0 0, .slice none 0 0, .slice none 0 0] 28)) #[.int .i64 3, .int .i64 0, .int .i64 0, .string ⟨#[]⟩, .slice none 0 0, .slice none 0 0, .slice none 0 0] 28).later ((Later.rfl' _).alloc _)).chg hch (fun h => by unfold onlyB at h; simp at h; omega)
    rw [World.size_alloc] at h
    exact h
  have hsz : W.heap.size + 3 ≤ w1.heap.size := by have := hch.size; simp at this; omega
  have HR0 := Lib.hid BR; have HV0 := Lib.hid BV; have HCU1 := Lib.hid hcu
  have HCH := Lib.hid ((((((Later.rfl' W).alloc _).alloc _).alloc _).chg (freshB g W.heap.size)).trans (hch.more fun k hk => .inl hk))
  clear BR BV hcu hch HCU HCP hm hm0 hm8 HBL HCX
  go_wp2_with fail
  go_loopw [7] (fun i wr => ∃ (l : List Vl) (lv : Value), i = .int .i64 (l.length : Int) ∧ l.length ≤ m ∧ Box wr W.heap.size [.int .i64 0, .int .i64 0, .int .i64 0, .string ⟨#[]⟩, .slice none 0 0, .slice none 0 0, .slice none 0 0] ∧ Box wr (W.heap.size + 1) [.int .i64 3, .int .i64 0, .int .i64 0, .string ⟨#[]⟩, lv, .slice none 0 0, .slice none 0 0] ∧ Pushed (W.heap.size + 2) wr 28 7 encV l lv ∧ (∀ x ∈ l, x.cost ≤ E) ∧ CurAt wr g ∧ Chg (freshB g W.heap.size) W wr ∧ W.heap.size + 2 ≤ wr.heap.size) (fun i _ => m - (intOf i).toNat)
  case atStart => exact ⟨[], .slice none 0 0, rfl, Nat.zero_le _, HR0.out, HV0.out, Pushed.row0 encV (World.ownsRow_nil _ _ _ _), fun x hx => by simp at hx, HCU1.out, HCH.out, by omega⟩
  case round =>
    obtain ⟨l, lv, rfl, hj, hR, hV, hP, hsm, hcu, hch, hsz2⟩ := hrel
    have HR := Lib.hid hR; have HV := Lib.hid hV; have HP := Lib.hid hP; have HSM := Lib.hid hsm; have HC := Lib.hid hcu; have HH := Lib.hid hch
    by_cases hlt2 : l.length < m
    · have hki : (l.length : Int) < (m : Int) := by omega
      have hk4 := hV.cell (j := 4) rfl
      have hz := hV.lt
      have hjn : (l.length + 1) * 112 ≤ 140737488355328 := by omega
      have hjm : l.length + 1 ≤ maxLen := by unfold maxLen; omega
      clear hR hV hP hsm hcu hch HR0 HV0 HCU1 HCH
      go_wp2_with fail
      go_region_law (first
        | (refine step_append_lies _ rfl (.tmp 18) (.tmp 22) 24 rfl (W.heap.size + 2) 28 i0 (.agg #[.int .i64 0, .int .i64 0, .int .i64 0, .string ByteArray.empty, .slice none 0 0, .slice none 0 0, .slice none 0 0]) 7 112 Try.underlying24 hi hz0 hz1 hz2 rfl (by decide) lv l.length xs (by simp [Act.eval, Act.put]) a1 ⟨w3.heap.size, 0, none⟩ 1 1 [.int .i64 k, .int .i64 n, .int .i64 s, .string t, .slice A4 l1.length c4, .slice A5 cl.length c5, .slice A6 rs.length c6] (by simp [Act.eval, Act.put]) a2 a4.out a3.out (by omega) hjm hjn a5 (w3.heap.size + 1) (by simp) ?_; intro gg cap w4 ho4 hg4 hat4 hlt4; obtain ⟨B4, HF⟩ := a6.out gg cap w4 ho4 hg4 hat4; have m4 := B4.cell (j := 4) rfl; have mf := B4.free 4; clear ho4 hg4 hat4 B4)
        | (go_simp; go_at_call 170; refine (HEL.out g _ (HC.out.later (Later.rfl' _).drew)).mono ?_; rintro e w3 ⟨⟨k, n, s, t, l1, cl, rs, v4, v5, v6, rfl, hsd, hcost, hT⟩, hcu3, hch3⟩; obtain ⟨A4, c4, A5, c5, A6, c6, rfl, rfl, rfl⟩ := hT.shape; have hb := hsd.between; have HC3 := Lib.hid hcu3; have HCH3 := Lib.hid ((((Later.rfl' wr).drew).chg (onlyB g)).trans hch3); have HCO := Lib.hid hcost; have HALL := Lib.hid (push_all (p := 4) encV_len 28 HV.out HP.out (Nat.lt_succ_self _) hsz2 HCH3.out (fun b hb => by unfold onlyB at hb; omega) (hT.owns hb.1 hb.2.1 hb.2.2.1 hb.2.2.2)); obtain ⟨b3, xs, a1, a2, a3, a4, a5, a6⟩ := HALL.out; have k3 := b3.cell (j := 4) rfl; have z3 := b3.lt; replace a3 := Lib.hid a3; replace a4 := Lib.hid a4; replace a6 := Lib.hid a6; clear b3 HALL hcu3 hch3 hT hb hsd hcost))
      all_goals
        (obtain ⟨D1, D2, D3, D4⟩ := fill_done hlt HR.out HH.out HCH3.out HC3.out HF.out.2.2
         have E1 := Lib.hid D1; have E2 := Lib.hid D2; have E3 := Lib.hid D3
         clear D1 D2 D3 k3 z3 hk4 hz a1 a2 a3 a4 a5 a6 m4 mf
         go_wp2_with fail
         go_roundw
         case rel => exact ⟨l ++ [.mk k n s t l1 cl rs], _, by rw [List.length_append]; go_num, by rw [List.length_append]; simp; omega, E1.out, HF.out.2.1, HF.out.1, (fun y hy => by
           rcases List.mem_append.1 hy with h | h
           · exact HSM.out y h
           · rw [List.mem_singleton.1 h, HE.out]; exact HCO.out), E2.out, E3.out, by omega⟩
         case measure => simp [intOf]; omega)
    · obtain ⟨A, c, rfl⟩ := pushed_shape hP
      have HO := Lib.hid ((DrawnT.ofList hP).base (lo' := W.heap.size + 1) (Nat.le_succ _))
      have hcost : Hid ((listD l).cost ≤ 8 + 8 * elM d) := by
        have h1 := sum_le hsm
        have h2 := cost_list l
        have h3 : l.length * E ≤ 8 * E := Nat.mul_le_mul_right _ (by omega)
        unfold Hid
        rw [← HE.out]
        omega
      have r0 := hR.cell (j := 0) rfl
      have f0 := hR.free 0
      have v0 := hV.cell (j := 0) rfl
      have r1 := hR.cell (j := 1) rfl
      have f1 := hR.free 1
      have v1 := hV.cell (j := 1) rfl
      have r2 := hR.cell (j := 2) rfl
      have f2 := hR.free 2
      have v2 := hV.cell (j := 2) rfl
      have r3 := hR.cell (j := 3) rfl
      have f3 := hR.free 3
      have v3 := hV.cell (j := 3) rfl
      have r4 := hR.cell (j := 4) rfl
      have f4 := hR.free 4
      have v4 := hV.cell (j := 4) rfl
      have r5 := hR.cell (j := 5) rfl
      have f5 := hR.free 5
      have v5 := hV.cell (j := 5) rfl
      have r6 := hR.cell (j := 6) rfl
      have f6 := hR.free 6
      have v6 := hV.cell (j := 6) rfl
      have rz := hR.lt
      have vz := hV.lt
      clear hR hV hP hsm hcu hch HR0 HV0 HCU1 HCH HP HR HV
      go_wp2_with fail
      exact bodyPost_ret (v := .agg #[.int .i64 3, .int .i64 0, .int .i64 0, .string ⟨#[]⟩, .slice A l.length c, .slice none 0 0, .slice none 0 0]) (by simp [results, Try.results135, go_sem, r0, r1, r2, r3, r4, r5, r6]) rfl
        (fill_endR rfl HO.out (by unfold SmallD; decide) hcost.out HC.out HH.out hlt [.int .i64 3, .int .i64 0, .int .i64 0, .string ⟨#[]⟩, .slice A l.length c, .slice none 0 0, .slice none 0 0])

theorem elem0 : ElQ 1 := elem_of 0 (by omega) (fun h => by omega)
theorem drawList (d : Nat) (hd : d ≤ 10) : LiQ (d + 1) := by
  induction d with
  | zero => exact list_of 1 elem0
  | succ d ih => exact list_of (d + 2) (elem_of (d + 1) (by omega) fun _ => ih (by omega))
end Go.Proofs.Ytghemlokpfipoaa
namespace Go.Proofs.Ytghemlokpfipoaa
open Go.ChangeShapes Go.WideShapes Go.ChangeAt Go.RowKit
set_option linter.unusedVariables false
set_option linter.unusedSimpArgs false
set_option maxRecDepth 100000

def tabNames : List ByteArray := [⟨#[97]⟩, ⟨#[98]⟩, ⟨#[99]⟩, ⟨#[120]⟩]
theorem tabNames_small : ∀ x ∈ tabNames, x.size ≤ 100 := by decide
/-- A row of strings of the call's own, as a slice of columns. -/
theorem cols_in {w : World} {e : Nat} {v : Value} {cl : List ByteArray} (h : w.ownsRow 0 e 1 v cl.length (cl.map .string)) (hs : ∀ x ∈ cl, x.size ≤ 100) : PushIn (fun b => v.ownBlock = some b) w e 1 encS cl v := by
  refine ⟨cl.map .string, noB, h, fun g hg => hg, fun _ _ h => False.elim h, fun _ _ _ _ h => False.elim h, fun p d u hd hu => ?_⟩
  rw [flat_strs, List.getElem?_map] at hd
  rw [List.getElem?_map] at hu
  obtain ⟨x, hx, rfl⟩ := Option.map_eq_some_iff.1 hd
  rw [hx] at hu
  simp at hu
  subst hu
  exact .str _ _ (by have := hs x (List.mem_of_getElem? hx); omega)
theorem trio_cols0 {lo HV : Nat} {w : World} {e : Nat} {v : Value} {cl : List ByteArray} (he : e = 9) (h : w.ownsRow 0 e 1 v cl.length (cl.map .string)) (hs : ∀ x ∈ cl, x.size ≤ 100) (hv : ∀ b, v.ownBlock = some b → lo ≤ b ∧ b ≠ HV) :
    Trio lo HV w [] cl [] (.slice none 0 0) v (.slice none 0 0) := by
  subst he
  exact ⟨fun _ => False, fun b => v.ownBlock = some b, fun _ => False, fun b hb => by
      have hb : v.ownBlock = some b := by simpa using hb
      exact ⟨(hv b hb).1, (h.lt b hb).2, (hv b hb).2⟩, fun _ h => False.elim h, fun _ h => False.elim h, fun _ _ h => h, PushIn.nil _ _ _ _ _, cols_in h hs, PushIn.nil _ _ _ _ _⟩
/-- The columns of a drawn table. -/
def ColsAt (g lo HV n : Nat) (W w : World) (zc : List Value) : Prop := ∃ cl A5 c5, cl.length = n ∧ (∀ x ∈ cl, x.size ≤ 100) ∧ Box w W.heap.size zc ∧ Box w HV [.int .i64 5, .int .i64 0, .int .i64 0, .string ⟨#[]⟩, .slice none 0 0, .slice A5 cl.length c5, .slice none 0 0] ∧
  Trio lo HV w [] cl [] (.slice none 0 0) (.slice A5 cl.length c5) (.slice none 0 0) ∧ CurAt w g ∧ Chg (freshB g W.heap.size) W w
theorem rw_cost (cs : List Int) (xs : List Org) : (Rw.mk cs xs).cost = cs.length + xs.length := rfl
/-- A drawn row, out of its two slices. -/
theorem owns_row {B m g : Nat} {w w2 : World} {cs : List Int} {xs : List Org} {cv v : Value} (hc : Pushed (m + 1) w 3 1 encI cs cv) (hx : Pushed B w2 101 2 encO xs v) (c : Chg (fun b => b = g ∨ m ≤ b) w2 w) (hm : w2.heap.size = m) (hB : B ≤ m) (hg : g < B) :
    Owns w (fun b => B ≤ b ∧ b < w.heap.size) (encR ⟨cs, xs⟩) [cv, v] := by
  have hs := c.size
  have h1 := hc.own encI_len
  have h2 := (hx.own encO_len).chg c fun b h k => by omega
  unfold encR
  exact Owns.cons h1 (Owns.cons (S := fun _ => False) h2 (owns_nil _ _) (fun b h => h) (fun _ h => False.elim h) (fun _ _ h => h)) (fun b h => ⟨by omega, h.2⟩) (fun b h => ⟨h.1, by omega⟩) (fun b h k => by omega)
theorem costS_le {cl : List ByteArray} {n : Nat} (hl : cl.length ≤ n) (hs : ∀ x ∈ cl, x.size ≤ 100) : costS cl ≤ 101 * n := by
  have h := sum_le (f := ByteArray.size) hs
  unfold sumN at h
  unfold costS
  omega
theorem tab_done {W wr wk wf : World} {g HV lo : Nat} {zc : List Value} (hR : Box wr W.heap.size zc) (hL : Chg (freshB g W.heap.size) W wr) (c : Chg (onlyB g) wr wk) (hcu : CurAt wk g) (cf : Chg (fun b => b = HV ∨ lo ≤ b) wk wf) (hg : g < W.heap.size) (hHV : W.heap.size < HV) (hlo : W.heap.size < lo) :
    Box wf W.heap.size zc ∧ CurAt wf g ∧ Chg (freshB g W.heap.size) W wf :=
  ⟨(hR.chg c fun h => by unfold onlyB at h; omega).chg cf fun h => by omega, hcu.chg cf fun b hb h => by omega, (hL.trans (c.more fun k hk => .inl hk)).trans (cf.more fun k hk => .inr (by omega))⟩
theorem chg_in {W w w3 : World} {g : Nat} {o : Obj} (h1 : Chg (onlyB g) W w) (h2 : Chg (fun b => b = g ∨ w.heap.size ≤ b) (w.alloc o) w3) : Chg (onlyB g) W w3 := by
  have h3 := (h1.more (S' := fun b => b = g ∨ W.heap.size ≤ b) fun k hk => .inl hk).trans ((((Later.rfl' w).alloc o).chg _).trans (h2.more fun k hk => by have := h1.size; rcases hk with h | h; exact .inl h; exact .inr (by omega)))
  exact ⟨h3.os, h3.tape, h3.output, h3.size, fun k hk hne => h3.block k hk fun e => by
    rcases e with e | e
    · exact hne e
    · omega⟩
theorem inner_done {wk w3 wf : World} {g HB : Nat} {w2 : World} (hL : Chg (fun b => b = g ∨ HB ≤ b) w2 wk) (c : Chg (onlyB g) wk w3) (hcu : CurAt w3 g) (cf : Chg (fun b => HB ≤ b) w3 wf) (hg : g < HB) : CurAt wf g ∧ Chg (fun b => b = g ∨ HB ≤ b) w2 wf ∧ wk.heap.size ≤ wf.heap.size :=
  ⟨hcu.chg cf fun b hb h => by omega, (hL.trans (c.more fun k hk => .inl hk)).trans (cf.more fun k hk => .inr hk), Nat.le_trans c.size cf.size⟩

theorem cols_x {g lo HV n g5 c5 : Nat} {W w2 : World} {zc : List Value} {cl0 : List ByteArray} (hR : Box w2 W.heap.size zc) (hV : Box w2 HV [.int .i64 5, .int .i64 0, .int .i64 0, .string ⟨#[]⟩, .slice none 0 0, .slice (some ⟨g5, 0, none⟩) n c5, .slice none 0 0])
    (hO : w2.ownsRow 0 9 1 (.slice (some ⟨g5, 0, none⟩) n c5) n (cl0.map .string)) (hl : cl0.length = n) (hn : 1 ≤ n) (hcu : CurAt w2 g) (hch : Chg (freshB g W.heap.size) W w2) (h1 : W.heap.size < g5) (h2 : g5 < HV) (hlo : lo ≤ g5) (hg : g < W.heap.size) :
    ColsAt g lo HV 1 W ((w2.setCell ⟨g5, 0, none⟩ (.string ⟨#[120]⟩)).setCell ⟨HV, 5, none⟩ (.slice (some ⟨g5, 0, none⟩) 1 c5)) zc := by
  have hc1 : Chg (fun b => b = g5 ∨ b = HV) w2 ((w2.setCell ⟨g5, 0, none⟩ (.string ⟨#[120]⟩)).setCell ⟨HV, 5, none⟩ (.slice (some ⟨g5, 0, none⟩) 1 c5)) := ((Chg.rfl' _ w2).set (.inl rfl)).set (.inr rfl)
  have ho := row_take (p := 1) (hO.stored 0 (.string ⟨#[120]⟩)).1 hn
  have he : ((cl0.map Value.string).set 0 (.string ⟨#[120]⟩)).take (1 * 1) = [Value.string ⟨#[120]⟩] := by
    cases cl0 with
    | nil => simp at hl; omega
    | cons a r => rfl
  rw [he] at ho
  have hc2 : Chg (fun b => b = HV) (w2.setCell ⟨g5, 0, none⟩ (.string ⟨#[120]⟩)) ((w2.setCell ⟨g5, 0, none⟩ (.string ⟨#[120]⟩)).setCell ⟨HV, 5, none⟩ (.slice (some ⟨g5, 0, none⟩) 1 c5)) := (Chg.rfl' (fun b => b = HV) _).set rfl
  have ho2 := row_block ho (w' := (w2.setCell ⟨g5, 0, none⟩ (.string ⟨#[120]⟩)).setCell ⟨HV, 5, none⟩ (.slice (some ⟨g5, 0, none⟩) 1 c5)) fun b hb => hc2.block b (ho.lt b hb).2 (by simp only [Value.ownBlock, Option.some.injEq] at hb; omega)
  refine ⟨[⟨#[120]⟩], some ⟨g5, 0, none⟩, c5, rfl, by decide, hR.chg hc1 (by omega), (hV.other (g' := g5) 0 (.string ⟨#[120]⟩) (by omega)).set 5 _, trio_cols0 rfl ho2 (by decide) (fun b hb => by simp only [Value.ownBlock, Option.some.injEq] at hb; omega), hcu.chg hc1 fun b hb h => by omega, hch.trans (hc1.more fun k hk => .inr (by omega))⟩

set_option maxHeartbeats 16000000 in
theorem drawTable (g : Nat) (W : World) (hc : CurAt W g) : Calls Try.prog 198 #[.pointer (some ⟨g, 0, none⟩)] W fun r w' => DrawnR 1000 g W w' r := by
  have hlt := hc.lt
  obtain ⟨i0, hi, hz0, hz1, hz2⟩ := info_parts info_string
  have HC0 := Lib.hid (hc.later (((Later.rfl' W).alloc (.cells #[.int .i64 0, .int .i64 0, .int .i64 0, .string ⟨#[]⟩, .slice none 0 0, .slice none 0 0, .slice none 0 0] 28)).alloc (.cells #[.string ⟨#[97]⟩, .string ⟨#[98]⟩, .string ⟨#[99]⟩, .string ⟨#[120]⟩] 9)))
  clear hc
  go_enter Try.func198, Try.ntmps198
  go_wp2_with fail
  refine (drawBelow 3 g (by omega) (by omega) _ HC0.out).mono ?_; rintro e w1 ⟨⟨x, hx, rfl⟩, hcu, hch⟩
  have BR : Box w1 W.heap.size [.int .i64 0, .int .i64 0, .int .i64 0, .string ⟨#[]⟩, .slice none 0 0, .slice none 0 0, .slice none 0 0] := ((box_alloc W #[.int .i64 0, .int .i64 0, .int .i64 0, .string ⟨#[]⟩, .slice none 0 0, .slice none 0 0, .slice none 0 0] 28).later ((Later.rfl' _).alloc _)).chg hch (fun h => by unfold onlyB at h; omega)
  have BN : Box w1 (W.heap.size + 1) (tabNames.map .string) := by
    have h := (box_alloc (W.alloc (.cells #[.int .i64 0, .int .i64 0, .int .i64 0, .string ⟨#[]⟩, .slice none 0 0, .slice none 0 0, .slice none 0 0] 28)) #[.string ⟨#[97]⟩, .string ⟨#[98]⟩, .string ⟨#[99]⟩, .string ⟨#[120]⟩] 9).chg hch (fun h => by unfold onlyB at h; simp at h; omega)
    rw [World.size_alloc] at h
    exact h
  have hsz : W.heap.size + 2 ≤ w1.heap.size := by have := hch.size; simp at this; omega
  have HCH := Lib.hid (((((Later.rfl' W).alloc (.cells #[.int .i64 0, .int .i64 0, .int .i64 0, .string ⟨#[]⟩, .slice none 0 0, .slice none 0 0, .slice none 0 0] 28)).alloc (.cells #[.string ⟨#[97]⟩, .string ⟨#[98]⟩, .string ⟨#[99]⟩, .string ⟨#[120]⟩] 9)).chg (freshB g W.heap.size)).trans (hch.more fun k hk => .inl hk))
  obtain ⟨n, hn⟩ : ∃ n, n = 1 + x := ⟨_, rfl⟩
  have hni : (1 : Int) + (x : Int) = (n : Int) := by omega
  have hn1 : 1 ≤ n := by omega
  have hn3 : n ≤ 3 := by omega
  have hnl : ((tabNames.take n).map Value.string).length = n * 1 := by rw [List.length_map, List.length_take]; simp [tabNames]; omega
  have hcell : ∀ j u, ((tabNames.take n).map Value.string)[j]? = some u → (w1.alloc (.cells #[] 9)).cell? ((⟨W.heap.size + 1, 0, none⟩ : Addr).add j) = some u := fun j u hu => by
    rw [List.getElem?_map] at hu
    obtain ⟨s, hs, rfl⟩ := Option.map_eq_some_iff.1 hu
    rw [List.getElem?_take] at hs
    split at hs
    · rw [add_lit, Nat.zero_add]
      exact (BN.later ((Later.rfl' _).alloc _)).cell (by rw [List.getElem?_map, hs]; rfl)
    · cases hs
  have hone : ∀ u ∈ (tabNames.take n).map Value.string, u.oneCell' = true := fun u hu => by
    obtain ⟨s, _, rfl⟩ := List.mem_map.1 hu
    rfl
  have HR1 := Lib.hid BR; have HCU1 := Lib.hid hcu; have HCELL := Lib.hid hcell; have HONE := Lib.hid hone; have HNL := Lib.hid hnl
  clear BR BN hcu hch hcell hone hnl HC0
  clear hn
  go_wp2_with (at_builtin; refine wpList_append_zero _ rfl (.tmp 14) (.tmp 17) 25 rfl 9 i0 (.string ByteArray.empty) 1 16 Try.underlying25 hi hz0 hz1 hz2 rfl (by decide) _ rfl (fresh_own (Later.rfl' _) (by first | rfl | omega | (simp; done) | (simp; omega))) (some ⟨W.heap.size + 1, 0, none⟩) n 4 ((tabNames.take n).map .string) rfl HNL.out (fun h => by cases h) (fun ad had => by cases had; exact HCELL.out) HONE.out (by unfold maxLen; omega) (by omega) ?_)
  intro vA wA hoA hbA hatA
  obtain ⟨g5, c5, rfl, hg5, hgl5, hnc5, _⟩ := row_form hoA (by intro e; obtain ⟨A, c, e2, _, _, h3⟩ := row_shape hoA; obtain ⟨gg, e3, _⟩ := h3 (by omega); rw [e2, e3] at e; cases e)
  have hbw : Later w1 wA := ((Later.rfl' w1).alloc (.cells #[] 9)).trans hbA
  have hg5lo : w1.heap.size ≤ g5 := by rcases hatA with h | h <;> (simp only [Value.ownBlock, Option.some.injEq, World.size_alloc] at h; omega)
  have hcl : ∀ s ∈ tabNames.take n, s.size ≤ 100 := fun s hs => tabNames_small s (List.mem_of_mem_take hs)
  have hlen : (tabNames.take n).length = n := by rw [List.length_take]; simp [tabNames]; omega
  obtain ⟨cl0, hcl0⟩ : ∃ cl, cl = tabNames.take n := ⟨_, rfl⟩
  first | rw [← List.map_take] at hoA | skip
  rw [← hcl0] at hoA hcl hlen
  clear hcl0
  have HO := Lib.hid hoA; have HCL := Lib.hid hcl; have HLEN := Lib.hid hlen
  have BR2 := HR1.out.later hbw
  have hV0 := box_alloc wA #[.int .i64 5, .int .i64 0, .int .i64 0, .string ⟨#[]⟩, .slice none 0 0, .slice (some ⟨g5, 0, none⟩) n c5, .slice none 0 0] 28
  have HRA := Lib.hid (BR2.later ((Later.rfl' wA).alloc (.cells #[.int .i64 5, .int .i64 0, .int .i64 0, .string ⟨#[]⟩, .slice none 0 0, .slice (some ⟨g5, 0, none⟩) n c5, .slice none 0 0] 28)))
  have HVA := Lib.hid hV0
  have HCA := Lib.hid ((HCU1.out.later hbw).later ((Later.rfl' wA).alloc (.cells #[.int .i64 5, .int .i64 0, .int .i64 0, .string ⟨#[]⟩, .slice none 0 0, .slice (some ⟨g5, 0, none⟩) n c5, .slice none 0 0] 28)))
  have HHA := Lib.hid ((HCH.out.trans (hbw.chg _)).trans (((Later.rfl' wA).alloc (.cells #[.int .i64 5, .int .i64 0, .int .i64 0, .string ⟨#[]⟩, .slice none 0 0, .slice (some ⟨g5, 0, none⟩) n c5, .slice none 0 0] 28)).chg _))
  have hszA := hbw.size
  clear hoA hbA hatA hcl hlen BR2 hV0 hbw HR1 HCU1 HCH HCELL HONE HNL hi hz0 hz1 hz2
  go_wp2_with fail
  refine (drawOnce 5 g (by omega) (by omega) _ HCA.out).mono ?_; rintro e w2 ⟨⟨q, rfl⟩, hcu, hch⟩
  have hR2 := HRA.out.chg hch (fun h => by unfold onlyB at h; omega)
  have hV2 := HVA.out.chg hch (fun h => by unfold onlyB at h; omega)
  have hO2 := row_block (HO.out.alloc (.cells #[.int .i64 5, .int .i64 0, .int .i64 0, .string ⟨#[]⟩, .slice none 0 0, .slice (some ⟨g5, 0, none⟩) n c5, .slice none 0 0] 28)) (w' := w2) fun b hb => hch.block b (by simp only [Value.ownBlock, Option.some.injEq] at hb; simp; omega) (by simp only [Value.ownBlock, Option.some.injEq] at hb; unfold onlyB; omega)
  have hsz2 := hch.size
  rw [World.size_alloc] at hsz2
  have HR2 := Lib.hid hR2; have HV2 := Lib.hid hV2; have HC2 := Lib.hid hcu; have HO2 := Lib.hid hO2
  have HH2 := Lib.hid (HHA.out.trans (hch.more (S' := freshB g W.heap.size) fun k hk => .inl hk))
  have k5 := hV2.cell (j := 5) rfl
  have c0 : w2.cell? ⟨g5, 0, none⟩ = some (.string (cl0[0]'(by have := HLEN.out; omega))) := by
    rw [hO2.cellAt 0 (by omega), List.getElem?_map, List.getElem?_eq_getElem (by have := HLEN.out; omega)]
    rfl
  obtain ⟨s0, hs0⟩ : ∃ s0, s0 = cl0[0]'(by have := HLEN.out; omega) := ⟨_, rfl⟩
  rw [← hs0] at c0
  have fr0 := hO2.frozenAt (g := g5) 0
  have hVx := hV2.other (g' := g5) 0 (.string ⟨#[120]⟩) (by omega)
  have k5' := hVx.cell (j := 5) rfl
  have f5' := hVx.free 5
  have vz2 := hV2.lt
  have h1c : 1 ≤ c5 := by omega
  have HX := Lib.hid (cols_x hR2 hV2 hO2 HLEN.out hn1 hcu HH2.out (by omega) (by omega) (show W.heap.size + 1 ≤ g5 by omega) hlt)
  have HY : Hid (ColsAt g (W.heap.size + 1) wA.heap.size n W w2 [.int .i64 0, .int .i64 0, .int .i64 0, .string ⟨#[]⟩, .slice none 0 0, .slice none 0 0, .slice none 0 0]) := ⟨cl0, some ⟨g5, 0, none⟩, c5, HLEN.out, HCL.out, hR2, by rw [HLEN.out]; exact hV2, by
      have := trio_cols0 (lo := W.heap.size + 1) (HV := wA.heap.size) rfl (by rw [HLEN.out]; exact hO2) HCL.out (fun b hb => by simp only [Value.ownBlock, Option.some.injEq] at hb; omega)
      rw [HLEN.out]
      exact this, hcu, HH2.out⟩
  have hzA := hgl5
  clear hR2 hV2 hO2 hcu hch HRA HVA HCA HHA HO hVx hs0 HR2 HV2 HC2 HO2 HH2
  go_upto_if 21 with fail
  go_cut [4] (fun s4 wx => ∃ m : Nat, s4 = .int .i64 (m : Int) ∧ 1 ≤ m ∧ m ≤ 3 ∧ ColsAt g (W.heap.size + 1) wA.heap.size m W wx [.int .i64 0, .int .i64 0, .int .i64 0, .string ⟨#[]⟩, .slice none 0 0, .slice none 0 0, .slice none 0 0])
  case first =>
    cases q with
    | true =>
      go_wp2_with fail
      go_meet
      exact ⟨1, rfl, Nat.le_refl _, by omega, HX.out⟩
    | false =>
      go_wp2_with fail
      go_meet
      exact ⟨n, rfl, hn1, hn3, HY.out⟩
  case rest =>
    obtain ⟨N, rfl, hN1, hN3, cl, A5, c5, hcl, hsm, hR, hV, hT, hcu, hch⟩ := hcut
    clear HX HY k5 c0 fr0 k5' f5' h1c hni hn1 hn3 hnc5 HLEN HCL vz2
    obtain ⟨HV, hHV⟩ : ∃ HV, HV = wA.heap.size := ⟨_, rfl⟩
    have hHV1 : W.heap.size < HV := by omega
    rw [← hHV]
    rw [← hHV] at hV hT
    have HT0 := Lib.hid hT; have HR0 := Lib.hid hR; have HV0 := Lib.hid hV; have HC0 := Lib.hid hcu; have HH0 := Lib.hid hch; have HSM := Lib.hid hsm; have HCLL := Lib.hid hcl
    clear hR hV hT hcu hch hsm hcl hHV hszA hsz2 hzA hgl5 hg5lo hg5 hsz
    go_wp2_with fail
    refine (drawBelow 6 g (by omega) (by omega) _ HC0.out).mono ?_; rintro e w3 ⟨⟨m, hm, rfl⟩, hcu, hch⟩
    have HR1 := Lib.hid (HR0.out.chg hch fun h => by unfold onlyB at h; omega)
    have HV1 := Lib.hid (HV0.out.chg hch fun h => by unfold onlyB at h; omega)
    have HT1 := Lib.hid (HT0.out.chg hch fun b h1 h2 h3 h => by unfold onlyB at h; omega)
    have HC1 := Lib.hid hcu
    have HH1 := Lib.hid (HH0.out.trans (hch.more (S' := freshB g W.heap.size) fun k hk => .inl hk))
    obtain ⟨i0, hi, hz0, hz1, hz2⟩ := info_parts info_int
    obtain ⟨j0, hj, hy0, hy1, hy2⟩ := info_parts info_row
    clear hcu hch HR0 HV0 HT0 HC0 HH0
    go_wp2_with fail
    go_loopw [7] (fun i wr => ∃ (rs : List Rw) (rv : Value), i = .int .i64 (rs.length : Int) ∧ rs.length ≤ m ∧ Box wr W.heap.size [.int .i64 0, .int .i64 0, .int .i64 0, .string ⟨#[]⟩, .slice none 0 0, .slice none 0 0, .slice none 0 0] ∧ Box wr HV [.int .i64 5, .int .i64 0, .int .i64 0, .string ⟨#[]⟩, .slice none 0 0, .slice A5 cl.length c5, rv] ∧ Trio (W.heap.size + 1) HV wr [] cl rs (.slice none 0 0) (.slice A5 cl.length c5) rv ∧ (∀ x ∈ rs, x.cost ≤ 10) ∧ CurAt wr g ∧ Chg (freshB g W.heap.size) W wr) (fun i _ => m - (intOf i).toNat)
    case atStart => exact ⟨[], .slice none 0 0, rfl, Nat.zero_le _, HR1.out, HV1.out, HT1.out, fun x hx => by simp at hx, HC1.out, HH1.out⟩
    case round =>
      obtain ⟨rs, rv, rfl, hjm0, hR, hV, hT, hsm, hcu, hch⟩ := hrel
      obtain ⟨wo, rfl⟩ : ∃ wo : World, wo = wr := ⟨_, rfl⟩
      clear HR1 HV1 HT1 HC1 HH1
      by_cases hlt2 : rs.length < m
      · have hki : (rs.length : Int) < (m : Int) := by omega
        have hszo := hch.size
        have hVl := hV.lt
        have HR := Lib.hid hR; have HVB := Lib.hid hV; have HT := Lib.hid hT; have HSR := Lib.hid hsm; have HC := Lib.hid hcu; have HH := Lib.hid hch
        have hgo := hcu.lt
        clear hR hV hT hsm hcu hch
        go_wp2_with fail
        refine (drawFrom g _ HC.out).mono ?_; rintro e w2 ⟨⟨xs, v, rfl, hxp, hxl⟩, hcu2, hch2⟩
        obtain ⟨A8, c8, rfl⟩ := pushed_shape hxp
        have HB0 := Lib.hid (box_alloc w2 #[.slice none 0 0, .slice A8 xs.length c8] 79)
        have HCU2 := Lib.hid (hcu2.later ((Later.rfl' w2).alloc (.cells #[.slice none 0 0, .slice A8 xs.length c8] 79)))
        have HX := Lib.hid hxp; have HH2 := Lib.hid hch2
        have hs2 := hch2.size
        clear hxp hcu2 hch2 HC
        go_wp2_with fail
        go_loopw [9] (fun k wk => ∃ (cs : List Int) (cv : Value), k = .int .i64 (cs.length : Int) ∧ cs.length ≤ N ∧ Box wk w2.heap.size [cv, .slice A8 xs.length c8] ∧ Pushed (w2.heap.size + 1) wk 3 1 encI cs cv ∧ CurAt wk g ∧ Chg (fun b => b = g ∨ w2.heap.size ≤ b) (w2.alloc (.cells #[.slice none 0 0, .slice A8 xs.length c8] 79)) wk) (fun k _ => N - (intOf k).toNat)
        case atStart => exact ⟨[], .slice none 0 0, rfl, Nat.zero_le _, HB0.out, Pushed.row0 encI (World.ownsRow_nil _ _ _ _), HCU2.out, Chg.rfl' _ _⟩
        case round =>
          obtain ⟨cs, cv, rfl, hkn, hBx, hp, hcu, hch⟩ := hrel
          obtain ⟨wk, rfl⟩ : ∃ wk : World, wk = wr := ⟨_, rfl⟩
          clear HB0 HCU2
          have hszk := hch.size
          rw [World.size_alloc] at hszk
          by_cases hlt3 : cs.length < N
          · have hki3 : (cs.length : Int) < (N : Int) := by omega
            have HB := Lib.hid hBx; have HP := Lib.hid hp; have HC := Lib.hid hcu; have HCH := Lib.hid hch
            have hkB := hBx.cell (j := 0) rfl
            have hzB := hBx.lt
            have hjn : (cs.length + 1) * 8 ≤ 140737488355328 := by omega
            have hjm : cs.length + 1 ≤ maxLen := by unfold maxLen; omega
            clear hBx hp hcu hch
            go_wp2_with fail
            go_region_law (first
              | (refine step_append_lies _ rfl (.tmp 45) (.tmp 48) 77 rfl (w2.heap.size + 1) 3 i0 (.int .i64 0) 1 8 Try.underlying77 hi hz0 hz1 hz2 rfl (by decide) cv cs.length ys (by simp [Act.eval, Act.put]) a1 ⟨w5.heap.size, 0, none⟩ 1 1 [.int .i64 y] (by simp [Act.eval, Act.put]) a2 a4.out a3.out (by omega) hjm hjn a5 (w5.heap.size + 1) (by simp) ?_; intro gg cap w4 ho4 hg4 hat4 hlt4; obtain ⟨B4, HF⟩ := a6.out gg cap w4 ho4 hg4 hat4; have m4 := B4.cell (j := 0) rfl; have mf := B4.free 0; clear ho4 hg4 hat4 B4)
              | (go_simp; go_at_call 136; refine (drawNum g _ (HC.out.later (Later.rfl' _).drew)).mono ?_; rintro e w5 ⟨⟨y, hy, rfl⟩, hcu5, hch5⟩; have HC5 := Lib.hid hcu5; have HCH5 := Lib.hid ((((Later.rfl' wk).drew).chg (onlyB g)).trans hch5); have HALL := Lib.hid (push_all (p := 0) encI_len 3 HB.out HP.out (Nat.lt_succ_self _) hszk HCH5.out (fun b hb => by unfold onlyB at hb; omega) (x := y) (us := [.int .i64 y]) (owns_leaves (S := anyB) (.cons (.int _ (by unfold Between64; omega)) .nil) (by simp [encI]))); obtain ⟨b3, ys, a1, a2, a3, a4, a5, a6⟩ := HALL.out; have k3 := b3.cell (j := 0) rfl; have z3 := b3.lt; replace a3 := Lib.hid a3; replace a4 := Lib.hid a4; replace a6 := Lib.hid a6; clear b3 HALL hcu5 hch5 hy))
            all_goals
              (obtain ⟨D1, D2, D3⟩ := inner_done HCH.out HCH5.out HC5.out HF.out.2.2 (by omega)
               have E1 := Lib.hid D1; have E2 := Lib.hid D2
               clear D1 D2 k3 z3 hkB hzB a1 a2 a3 a4 a5 a6 m4 mf
               go_wp2_with fail
               go_roundw
               case rel => exact ⟨cs ++ [y], _, by rw [List.length_append]; go_num, by rw [List.length_append]; simp; omega, HF.out.2.1, HF.out.1, E1.out, E2.out⟩
               case measure => simp [intOf]; omega)
          · obtain ⟨A9, c9, rfl⟩ := pushed_shape hp
            have cAll := chg_in HH2.out hch
            have hVk := HVB.out.chg cAll (fun h => by unfold onlyB at h; omega)
            have ho := owns_row hp HX.out ((((Later.rfl' w2).alloc (.cells #[.slice none 0 0, .slice A8 xs.length c8] 79)).chg _).trans hch) rfl hs2 hgo
            have hk0 := hBx.cell (j := 0) rfl
            have hk1 := hBx.cell (j := 1) rfl
            have v6 := hVk.cell (j := 6) rfl
            have hszO : W.heap.size + 1 ≤ wo.heap.size := by omega
            obtain ⟨b2, ys, a1, a2, a3, a4, a5⟩ := trio_rows (p := 6) 79 HT.out HVB.out cAll (fun b h => by unfold onlyB at h; omega) hszO ho
            have hzk := b2.lt
            have A3 := Lib.hid a3; have A4 := Lib.hid a4; have A5 := Lib.hid a5; have HCK := Lib.hid hcu; have HALL := Lib.hid cAll
            have hjn : (rs.length + 1) * 48 ≤ 140737488355328 := by omega
            have hjm : rs.length + 1 ≤ maxLen := by unfold maxLen; omega
            clear a3 a4 a5 hVk ho hBx hp hcu hch cAll b2
            go_wp2_with (at_builtin; refine wpList_append_lies _ rfl (.tmp 52) (.tmp 54) 26 rfl 0 79 j0 (.agg #[.slice none 0 0, .slice none 0 0]) 2 48 Try.underlying26 hj hy0 hy1 hy2 rfl (by decide) _ rs.length ys rfl a1 ⟨wk.heap.size, 0, none⟩ 1 1 [.slice A9 cs.length c9, .slice A8 xs.length c8] rfl a2 A4.out A3.out (by omega) hjm hjn (Nat.zero_le _) (wk.heap.size + 1) (by simp) ?_)
            intro gg cap w4 ho4 hg4 hat4 hlt4
            obtain ⟨B4, HFN⟩ := A5.out gg cap w4 ho4 hg4 hat4
            have m4 := B4.cell (j := 6) rfl
            have mf := B4.free 6
            obtain ⟨D1, D2, D3⟩ := tab_done HR.out HH.out HALL.out HCK.out HFN.out.2.2 hlt hHV1 (Nat.lt_succ_self _)
            have E1 := Lib.hid D1; have E2 := Lib.hid D2; have E3 := Lib.hid D3
            clear D1 D2 D3 ho4 hg4 hat4 B4 a1 a2 A3 A4 A5 hk0 hk1 v6
            go_wp2_with fail
            go_roundw
            case rel => exact ⟨rs ++ [⟨cs, xs⟩], _, by rw [List.length_append]; go_num, by rw [List.length_append]; simp; omega, E1.out, HFN.out.2.1, HFN.out.1, (fun y hy => by
              rcases List.mem_append.1 hy with h | h
              · exact HSR.out y h
              · rw [List.mem_singleton.1 h, rw_cost]; omega), E2.out, E3.out⟩
            case measure => simp [intOf]; omega
      · obtain ⟨A4', c4', A5', c5'', A6, c6, e4, e5, rfl⟩ := hT.shape
        have hcost : Hid ((Vl.mk 5 0 0 ⟨#[]⟩ [] cl rs).cost ≤ 1000) := by
          have h1 := sum_le hsm
          have h2 := costS_le (n := 3) (by have := HCLL.out; omega) HSM.out
          have h3 : (⟨#[]⟩ : ByteArray).size = 0 := rfl
          unfold Hid
          rw [Vl.cost_mk, h3]
          simp only [List.length_nil, show sumN Vl.cost [] = 0 from rfl]
          omega
        have HO := Lib.hid hT.drawn; have HC := Lib.hid hcu; have HH := Lib.hid hch
        have rc0 := hR.cell (j := 0) rfl
        have y0 := hR.free 0
        have z0 := hV.cell (j := 0) rfl
        have rc1 := hR.cell (j := 1) rfl
        have y1 := hR.free 1
        have z1 := hV.cell (j := 1) rfl
        have rc2 := hR.cell (j := 2) rfl
        have y2 := hR.free 2
        have z2 := hV.cell (j := 2) rfl
        have rc3 := hR.cell (j := 3) rfl
        have y3 := hR.free 3
        have z3 := hV.cell (j := 3) rfl
        have rc4 := hR.cell (j := 4) rfl
        have y4 := hR.free 4
        have z4 := hV.cell (j := 4) rfl
        have rc5 := hR.cell (j := 5) rfl
        have y5 := hR.free 5
        have z5 := hV.cell (j := 5) rfl
        have rc6 := hR.cell (j := 6) rfl
        have y6 := hR.free 6
        have z6 := hV.cell (j := 6) rfl
        have wz := hR.lt
        have vz := hV.lt
        clear hR hV hT hsm hcu hch e4 e5
        go_wp2_with fail
        exact bodyPost_ret (v := .agg #[.int .i64 5, .int .i64 0, .int .i64 0, .string ⟨#[]⟩, .slice none 0 0, .slice A5 cl.length c5, .slice A6 rs.length c6]) (by simp [results, Try.results198, go_sem, rc0, rc1, rc2, rc3, rc4, rc5, rc6]) rfl
          (fill_endR rfl HO.out (by unfold SmallD; decide) hcost.out HC.out HH.out hlt [.int .i64 5, .int .i64 0, .int .i64 0, .string ⟨#[]⟩, .slice none 0 0, .slice A5 cl.length c5, .slice A6 rs.length c6])

end Go.Proofs.Ytghemlokpfipoaa
namespace Go.Proofs.Ytghemlokpfipoaa
open Go.ChangeShapes Go.WideShapes Go.ChangeAt Go.RowKit
set_option linter.unusedVariables false
set_option linter.unusedSimpArgs false
set_option maxRecDepth 100000

theorem drawList3 (g : Nat) (W : World) (hc : CurAt W g) : Calls Try.prog 135 #[.pointer (some ⟨g, 0, none⟩), .int .i64 3] W fun r w' => DrawnR 51784 g W w' r := drawList 2 (by omega) g W hc

set_option maxHeartbeats 8000000 in
theorem drawValue (g : Nat) (W : World) (hc : CurAt W g) : Calls Try.prog 166 #[.pointer (some ⟨g, 0, none⟩)] W fun r w' => DrawnR 60000 g W w' r := by
  have hlt := hc.lt
  have HC0 := Lib.hid (hc.later ((Later.rfl' W).alloc (.cells #[.int .i64 0, .int .i64 0, .int .i64 0, .string ⟨#[]⟩, .slice none 0 0, .slice none 0 0, .slice none 0 0] 28)))
  clear hc
  go_enter Try.func166, Try.ntmps166
  go_wp2_with fail
  refine (drawBelow 10 g (by omega) (by omega) _ HC0.out).mono ?_; rintro e w1 ⟨⟨m, hm, rfl⟩, hcu, hch⟩
  have HCX := Lib.hid hcu; have HHX := Lib.hid hch
  clear hcu hch HC0
  have hm10 : m = 0 ∨ m = 1 ∨ m = 2 ∨ m = 3 ∨ m = 4 ∨ m = 5 ∨ m = 6 ∨ m = 7 ∨ m = 8 ∨ m = 9 := by omega
  clear hm
  rcases hm10 with rfl | rfl | rfl | rfl | rfl | rfl | rfl | rfl | rfl | rfl
  · go_wp2_with fail
    refine (drawNum g _ HCX.out).mono ?_; rintro e w2 ⟨⟨x, hx, rfl⟩, hcu, hch⟩
    have HX := Lib.hid hx; have HC2 := Lib.hid hcu; have HH2 := Lib.hid (HHX.out.trans hch)
    clear hx hcu hch HCX HHX
    go_wp2_with fail
    refine (specNumberValue x _).mono ?_; rintro e w3 ⟨rfl, hb3⟩
    unfold leafA
    have hch3 : Chg (onlyB g) (W.alloc (.cells #[.int .i64 0, .int .i64 0, .int .i64 0, .string ⟨#[]⟩, .slice none 0 0, .slice none 0 0, .slice none 0 0] 28)) w3 := HH2.out.trans (hb3.chg _)
    have hR := box_only hch3 hlt
    have rc0 := hR.cell (j := 0) rfl
    have y0 := hR.free 0
    have rc1 := hR.cell (j := 1) rfl
    have y1 := hR.free 1
    have rc2 := hR.cell (j := 2) rfl
    have y2 := hR.free 2
    have rc3 := hR.cell (j := 3) rfl
    have y3 := hR.free 3
    have rc4 := hR.cell (j := 4) rfl
    have y4 := hR.free 4
    have rc5 := hR.cell (j := 5) rfl
    have y5 := hR.free 5
    have rc6 := hR.cell (j := 6) rfl
    have y6 := hR.free 6
    have wz := hR.lt
    have HC := Lib.hid (HC2.out.later hb3); have HH := Lib.hid hch3
    clear hR hch3 hb3 HC2 HH2
    go_wp2_with fail
    exact bodyPost_ret (v := .agg #[.int .i64 1, .int .i64 x, .int .i64 0, .string ⟨#[]⟩, .slice none 0 0, .slice none 0 0, .slice none 0 0]) (by simp [results, Try.results166, go_sem, rc0, rc1, rc2, rc3, rc4, rc5, rc6]) rfl (drawn_wrap rfl (by have := HX.out; unfold SmallD; refine ⟨by omega, by omega, by omega, by decide⟩) (Nat.le_trans (by have := cost_leaf 1 x 0 ⟨#[]⟩; have : (⟨#[]⟩ : ByteArray).size = 0 := rfl; unfold leafD at *; omega) (show 100 ≤ 60000 by decide)) (DrawnT.nils _ _) HC.out HH.out hlt [.int .i64 1, .int .i64 x, .int .i64 0, .string ⟨#[]⟩, .slice none 0 0, .slice none 0 0, .slice none 0 0])
  · go_wp2_with fail
    refine (drawNum g _ HCX.out).mono ?_; rintro e w2 ⟨⟨x, hx, rfl⟩, hcu, hch⟩
    have HX := Lib.hid hx; have HC2 := Lib.hid hcu; have HH2 := Lib.hid (HHX.out.trans hch)
    clear hx hcu hch HCX HHX
    go_wp2_with fail
    refine (specNumberValue x _).mono ?_; rintro e w3 ⟨rfl, hb3⟩
    unfold leafA
    have hch3 : Chg (onlyB g) (W.alloc (.cells #[.int .i64 0, .int .i64 0, .int .i64 0, .string ⟨#[]⟩, .slice none 0 0, .slice none 0 0, .slice none 0 0] 28)) w3 := HH2.out.trans (hb3.chg _)
    have hR := box_only hch3 hlt
    have rc0 := hR.cell (j := 0) rfl
    have y0 := hR.free 0
    have rc1 := hR.cell (j := 1) rfl
    have y1 := hR.free 1
    have rc2 := hR.cell (j := 2) rfl
    have y2 := hR.free 2
    have rc3 := hR.cell (j := 3) rfl
    have y3 := hR.free 3
    have rc4 := hR.cell (j := 4) rfl
    have y4 := hR.free 4
    have rc5 := hR.cell (j := 5) rfl
    have y5 := hR.free 5
    have rc6 := hR.cell (j := 6) rfl
    have y6 := hR.free 6
    have wz := hR.lt
    have HC := Lib.hid (HC2.out.later hb3); have HH := Lib.hid hch3
    clear hR hch3 hb3 HC2 HH2
    go_wp2_with fail
    exact bodyPost_ret (v := .agg #[.int .i64 1, .int .i64 x, .int .i64 0, .string ⟨#[]⟩, .slice none 0 0, .slice none 0 0, .slice none 0 0]) (by simp [results, Try.results166, go_sem, rc0, rc1, rc2, rc3, rc4, rc5, rc6]) rfl (drawn_wrap rfl (by have := HX.out; unfold SmallD; refine ⟨by omega, by omega, by omega, by decide⟩) (Nat.le_trans (by have := cost_leaf 1 x 0 ⟨#[]⟩; have : (⟨#[]⟩ : ByteArray).size = 0 := rfl; unfold leafD at *; omega) (show 100 ≤ 60000 by decide)) (DrawnT.nils _ _) HC.out HH.out hlt [.int .i64 1, .int .i64 x, .int .i64 0, .string ⟨#[]⟩, .slice none 0 0, .slice none 0 0, .slice none 0 0])
  · go_wp2_with fail
    refine (drawNum g _ HCX.out).mono ?_; rintro e w2 ⟨⟨x, hx, rfl⟩, hcu, hch⟩
    have HX := Lib.hid hx; have HC2 := Lib.hid hcu; have HH2 := Lib.hid (HHX.out.trans hch)
    clear hx hcu hch HCX HHX
    go_wp2_with fail
    refine (specNumberValue x _).mono ?_; rintro e w3 ⟨rfl, hb3⟩
    unfold leafA
    have hch3 : Chg (onlyB g) (W.alloc (.cells #[.int .i64 0, .int .i64 0, .int .i64 0, .string ⟨#[]⟩, .slice none 0 0, .slice none 0 0, .slice none 0 0] 28)) w3 := HH2.out.trans (hb3.chg _)
    have hR := box_only hch3 hlt
    have rc0 := hR.cell (j := 0) rfl
    have y0 := hR.free 0
    have rc1 := hR.cell (j := 1) rfl
    have y1 := hR.free 1
    have rc2 := hR.cell (j := 2) rfl
    have y2 := hR.free 2
    have rc3 := hR.cell (j := 3) rfl
    have y3 := hR.free 3
    have rc4 := hR.cell (j := 4) rfl
    have y4 := hR.free 4
    have rc5 := hR.cell (j := 5) rfl
    have y5 := hR.free 5
    have rc6 := hR.cell (j := 6) rfl
    have y6 := hR.free 6
    have wz := hR.lt
    have HC := Lib.hid (HC2.out.later hb3); have HH := Lib.hid hch3
    clear hR hch3 hb3 HC2 HH2
    go_wp2_with fail
    exact bodyPost_ret (v := .agg #[.int .i64 1, .int .i64 x, .int .i64 0, .string ⟨#[]⟩, .slice none 0 0, .slice none 0 0, .slice none 0 0]) (by simp [results, Try.results166, go_sem, rc0, rc1, rc2, rc3, rc4, rc5, rc6]) rfl (drawn_wrap rfl (by have := HX.out; unfold SmallD; refine ⟨by omega, by omega, by omega, by decide⟩) (Nat.le_trans (by have := cost_leaf 1 x 0 ⟨#[]⟩; have : (⟨#[]⟩ : ByteArray).size = 0 := rfl; unfold leafD at *; omega) (show 100 ≤ 60000 by decide)) (DrawnT.nils _ _) HC.out HH.out hlt [.int .i64 1, .int .i64 x, .int .i64 0, .string ⟨#[]⟩, .slice none 0 0, .slice none 0 0, .slice none 0 0])
  · go_wp2_with fail
    refine (drawText g _ HCX.out).mono ?_; rintro e w2 ⟨⟨x, hx, rfl⟩, hcu, hch⟩
    have HX := Lib.hid hx; have HC2 := Lib.hid hcu; have HH2 := Lib.hid (HHX.out.trans hch)
    clear hx hcu hch HCX HHX
    go_wp2_with fail
    refine (specTextValue x _).mono ?_; rintro e w3 ⟨rfl, hb3⟩
    unfold leafA
    have hch3 : Chg (onlyB g) (W.alloc (.cells #[.int .i64 0, .int .i64 0, .int .i64 0, .string ⟨#[]⟩, .slice none 0 0, .slice none 0 0, .slice none 0 0] 28)) w3 := HH2.out.trans (hb3.chg _)
    have hR := box_only hch3 hlt
    have rc0 := hR.cell (j := 0) rfl
    have y0 := hR.free 0
    have rc1 := hR.cell (j := 1) rfl
    have y1 := hR.free 1
    have rc2 := hR.cell (j := 2) rfl
    have y2 := hR.free 2
    have rc3 := hR.cell (j := 3) rfl
    have y3 := hR.free 3
    have rc4 := hR.cell (j := 4) rfl
    have y4 := hR.free 4
    have rc5 := hR.cell (j := 5) rfl
    have y5 := hR.free 5
    have rc6 := hR.cell (j := 6) rfl
    have y6 := hR.free 6
    have wz := hR.lt
    have HC := Lib.hid (HC2.out.later hb3); have HH := Lib.hid hch3
    clear hR hch3 hb3 HC2 HH2
    go_wp2_with fail
    exact bodyPost_ret (v := .agg #[.int .i64 2, .int .i64 0, .int .i64 0, .string x, .slice none 0 0, .slice none 0 0, .slice none 0 0]) (by simp [results, Try.results166, go_sem, rc0, rc1, rc2, rc3, rc4, rc5, rc6]) rfl (drawn_wrap rfl (by have := HX.out; unfold SmallD; omega) (Nat.le_trans (by have := cost_leaf 2 0 0 x; have := HX.out; unfold leafD at *; omega) (show 100 ≤ 60000 by decide)) (DrawnT.nils _ _) HC.out HH.out hlt [.int .i64 2, .int .i64 0, .int .i64 0, .string x, .slice none 0 0, .slice none 0 0, .slice none 0 0])
  · go_wp2_with fail
    refine (drawList3 g _ HCX.out).mono ?_; rintro e w3 ⟨⟨k, n, s, t, l, cl, rs, v4, v5, v6, rfl, hsm, hcost, hT0⟩, hcu, hch0⟩
    have hch : Chg (onlyB g) (W.alloc (.cells #[.int .i64 0, .int .i64 0, .int .i64 0, .string ⟨#[]⟩, .slice none 0 0, .slice none 0 0, .slice none 0 0] 28)) w3 := HHX.out.trans hch0
    have hT : DrawnT (W.alloc (.cells #[.int .i64 0, .int .i64 0, .int .i64 0, .string ⟨#[]⟩, .slice none 0 0, .slice none 0 0, .slice none 0 0] 28)).heap.size w3 l cl rs v4 v5 v6 := hT0.base HHX.out.size
    obtain ⟨A4, c4, A5, c5, A6, c6, rfl, rfl, rfl⟩ := hT.shape
    have hR := box_only hch hlt
    have rc0 := hR.cell (j := 0) rfl
    have y0 := hR.free 0
    have rc1 := hR.cell (j := 1) rfl
    have y1 := hR.free 1
    have rc2 := hR.cell (j := 2) rfl
    have y2 := hR.free 2
    have rc3 := hR.cell (j := 3) rfl
    have y3 := hR.free 3
    have rc4 := hR.cell (j := 4) rfl
    have y4 := hR.free 4
    have rc5 := hR.cell (j := 5) rfl
    have y5 := hR.free 5
    have rc6 := hR.cell (j := 6) rfl
    have y6 := hR.free 6
    have wz := hR.lt
    have HS := Lib.hid hsm; have HCO := Lib.hid hcost; have HT := Lib.hid hT; have HC := Lib.hid hcu; have HH := Lib.hid hch
    clear hR hsm hcost hT hT0 hcu hch hch0 HHX HCX
    go_wp2_with fail
    exact bodyPost_ret (v := .agg #[.int .i64 k, .int .i64 n, .int .i64 s, .string t, .slice A4 l.length c4, .slice A5 cl.length c5, .slice A6 rs.length c6]) (by simp [results, Try.results166, go_sem, rc0, rc1, rc2, rc3, rc4, rc5, rc6]) rfl (drawn_wrap rfl HS.out (Nat.le_trans HCO.out (by decide)) HT.out HC.out HH.out hlt [.int .i64 k, .int .i64 n, .int .i64 s, .string t, .slice A4 l.length c4, .slice A5 cl.length c5, .slice A6 rs.length c6])
  · go_wp2_with fail
    refine (drawNumbers g _ HCX.out).mono ?_; rintro e w3 ⟨⟨k, n, s, t, l, cl, rs, v4, v5, v6, rfl, hsm, hcost, hT0⟩, hcu, hch0⟩
    have hch : Chg (onlyB g) (W.alloc (.cells #[.int .i64 0, .int .i64 0, .int .i64 0, .string ⟨#[]⟩, .slice none 0 0, .slice none 0 0, .slice none 0 0] 28)) w3 := HHX.out.trans hch0
    have hT : DrawnT (W.alloc (.cells #[.int .i64 0, .int .i64 0, .int .i64 0, .string ⟨#[]⟩, .slice none 0 0, .slice none 0 0, .slice none 0 0] 28)).heap.size w3 l cl rs v4 v5 v6 := hT0.base HHX.out.size
    obtain ⟨A4, c4, A5, c5, A6, c6, rfl, rfl, rfl⟩ := hT.shape
    have hR := box_only hch hlt
    have rc0 := hR.cell (j := 0) rfl
    have y0 := hR.free 0
    have rc1 := hR.cell (j := 1) rfl
    have y1 := hR.free 1
    have rc2 := hR.cell (j := 2) rfl
    have y2 := hR.free 2
    have rc3 := hR.cell (j := 3) rfl
    have y3 := hR.free 3
    have rc4 := hR.cell (j := 4) rfl
    have y4 := hR.free 4
    have rc5 := hR.cell (j := 5) rfl
    have y5 := hR.free 5
    have rc6 := hR.cell (j := 6) rfl
    have y6 := hR.free 6
    have wz := hR.lt
    have HS := Lib.hid hsm; have HCO := Lib.hid hcost; have HT := Lib.hid hT; have HC := Lib.hid hcu; have HH := Lib.hid hch
    clear hR hsm hcost hT hT0 hcu hch hch0 HHX HCX
    go_wp2_with fail
    exact bodyPost_ret (v := .agg #[.int .i64 k, .int .i64 n, .int .i64 s, .string t, .slice A4 l.length c4, .slice A5 cl.length c5, .slice A6 rs.length c6]) (by simp [results, Try.results166, go_sem, rc0, rc1, rc2, rc3, rc4, rc5, rc6]) rfl (drawn_wrap rfl HS.out (Nat.le_trans HCO.out (by decide)) HT.out HC.out HH.out hlt [.int .i64 k, .int .i64 n, .int .i64 s, .string t, .slice A4 l.length c4, .slice A5 cl.length c5, .slice A6 rs.length c6])
  · go_wp2_with fail
    refine (drawNum g _ HCX.out).mono ?_; rintro e w2 ⟨⟨x, hx, rfl⟩, hcu, hch⟩
    have HX := Lib.hid hx; have HCA := Lib.hid hcu; have HHA := Lib.hid (HHX.out.trans hch)
    clear hx hcu hch HCX HHX
    go_wp2_with fail
    refine (drawNum g _ HCA.out).mono ?_; rintro e w2' ⟨⟨y, hy, rfl⟩, hcu, hch⟩
    have HY := Lib.hid hy; have HC2 := Lib.hid hcu; have HH2 := Lib.hid (HHA.out.trans hch)
    clear hy hcu hch HCA HHA
    go_wp2_with fail
    refine (specStreamValue x y _).mono ?_; rintro e w3 ⟨rfl, hb3⟩
    unfold leafA
    have hch3 : Chg (onlyB g) (W.alloc (.cells #[.int .i64 0, .int .i64 0, .int .i64 0, .string ⟨#[]⟩, .slice none 0 0, .slice none 0 0, .slice none 0 0] 28)) w3 := HH2.out.trans (hb3.chg _)
    have hR := box_only hch3 hlt
    have rc0 := hR.cell (j := 0) rfl
    have y0 := hR.free 0
    have rc1 := hR.cell (j := 1) rfl
    have y1 := hR.free 1
    have rc2 := hR.cell (j := 2) rfl
    have y2 := hR.free 2
    have rc3 := hR.cell (j := 3) rfl
    have y3 := hR.free 3
    have rc4 := hR.cell (j := 4) rfl
    have y4 := hR.free 4
    have rc5 := hR.cell (j := 5) rfl
    have y5 := hR.free 5
    have rc6 := hR.cell (j := 6) rfl
    have y6 := hR.free 6
    have wz := hR.lt
    have HC := Lib.hid (HC2.out.later hb3); have HH := Lib.hid hch3
    clear hR hch3 hb3 HC2 HH2
    go_wp2_with fail
    exact bodyPost_ret (v := .agg #[.int .i64 4, .int .i64 x, .int .i64 y, .string ⟨#[]⟩, .slice none 0 0, .slice none 0 0, .slice none 0 0]) (by simp [results, Try.results166, go_sem, rc0, rc1, rc2, rc3, rc4, rc5, rc6]) rfl (drawn_wrap rfl (by have := HX.out; have := HY.out; unfold SmallD; refine ⟨by omega, by omega, by omega, by decide⟩) (Nat.le_trans (by have := cost_leaf 4 x y ⟨#[]⟩; have : (⟨#[]⟩ : ByteArray).size = 0 := rfl; unfold leafD at *; omega) (show 100 ≤ 60000 by decide)) (DrawnT.nils _ _) HC.out HH.out hlt [.int .i64 4, .int .i64 x, .int .i64 y, .string ⟨#[]⟩, .slice none 0 0, .slice none 0 0, .slice none 0 0])
  · go_wp2_with fail
    refine (drawBelow 8 g (by omega) (by omega) _ HCX.out).mono ?_; rintro e w2 ⟨⟨x, hx, rfl⟩, hcu, hch⟩
    have HC2 := Lib.hid hcu; have HH2 := Lib.hid (HHX.out.trans hch)
    clear hcu hch HCX HHX
    go_wp2_with fail
    refine (specErrorValue (1 + (x : Int)) _).mono ?_; rintro e w3 ⟨rfl, hb3⟩
    unfold leafA
    have hch3 : Chg (onlyB g) (W.alloc (.cells #[.int .i64 0, .int .i64 0, .int .i64 0, .string ⟨#[]⟩, .slice none 0 0, .slice none 0 0, .slice none 0 0] 28)) w3 := HH2.out.trans (hb3.chg _)
    have hR := box_only hch3 hlt
    have rc0 := hR.cell (j := 0) rfl
    have y0 := hR.free 0
    have rc1 := hR.cell (j := 1) rfl
    have y1 := hR.free 1
    have rc2 := hR.cell (j := 2) rfl
    have y2 := hR.free 2
    have rc3 := hR.cell (j := 3) rfl
    have y3 := hR.free 3
    have rc4 := hR.cell (j := 4) rfl
    have y4 := hR.free 4
    have rc5 := hR.cell (j := 5) rfl
    have y5 := hR.free 5
    have rc6 := hR.cell (j := 6) rfl
    have y6 := hR.free 6
    have wz := hR.lt
    have HC := Lib.hid (HC2.out.later hb3); have HH := Lib.hid hch3
    clear hR hch3 hb3 HC2 HH2
    go_wp2_with fail
    exact bodyPost_ret (v := .agg #[.int .i64 6, .int .i64 (1 + (x : Int)), .int .i64 0, .string ⟨#[]⟩, .slice none 0 0, .slice none 0 0, .slice none 0 0]) (by simp [results, Try.results166, go_sem, rc0, rc1, rc2, rc3, rc4, rc5, rc6]) rfl (drawn_wrap rfl (by unfold SmallD; refine ⟨by omega, by omega, by omega, by decide⟩) (Nat.le_trans (by have := cost_leaf 6 (1 + (x : Int)) 0 ⟨#[]⟩; have : (⟨#[]⟩ : ByteArray).size = 0 := rfl; unfold leafD at *; omega) (show 100 ≤ 60000 by decide)) (DrawnT.nils _ _) HC.out HH.out hlt [.int .i64 6, .int .i64 (1 + (x : Int)), .int .i64 0, .string ⟨#[]⟩, .slice none 0 0, .slice none 0 0, .slice none 0 0])
  · go_wp2_with fail
    refine (drawTable g _ HCX.out).mono ?_; rintro e w3 ⟨⟨k, n, s, t, l, cl, rs, v4, v5, v6, rfl, hsm, hcost, hT0⟩, hcu, hch0⟩
    have hch : Chg (onlyB g) (W.alloc (.cells #[.int .i64 0, .int .i64 0, .int .i64 0, .string ⟨#[]⟩, .slice none 0 0, .slice none 0 0, .slice none 0 0] 28)) w3 := HHX.out.trans hch0
    have hT : DrawnT (W.alloc (.cells #[.int .i64 0, .int .i64 0, .int .i64 0, .string ⟨#[]⟩, .slice none 0 0, .slice none 0 0, .slice none 0 0] 28)).heap.size w3 l cl rs v4 v5 v6 := hT0.base HHX.out.size
    obtain ⟨A4, c4, A5, c5, A6, c6, rfl, rfl, rfl⟩ := hT.shape
    have hR := box_only hch hlt
    have rc0 := hR.cell (j := 0) rfl
    have y0 := hR.free 0
    have rc1 := hR.cell (j := 1) rfl
    have y1 := hR.free 1
    have rc2 := hR.cell (j := 2) rfl
    have y2 := hR.free 2
    have rc3 := hR.cell (j := 3) rfl
    have y3 := hR.free 3
    have rc4 := hR.cell (j := 4) rfl
    have y4 := hR.free 4
    have rc5 := hR.cell (j := 5) rfl
    have y5 := hR.free 5
    have rc6 := hR.cell (j := 6) rfl
    have y6 := hR.free 6
    have wz := hR.lt
    have HS := Lib.hid hsm; have HCO := Lib.hid hcost; have HT := Lib.hid hT; have HC := Lib.hid hcu; have HH := Lib.hid hch
    clear hR hsm hcost hT hT0 hcu hch hch0 HHX HCX
    go_wp2_with fail
    exact bodyPost_ret (v := .agg #[.int .i64 k, .int .i64 n, .int .i64 s, .string t, .slice A4 l.length c4, .slice A5 cl.length c5, .slice A6 rs.length c6]) (by simp [results, Try.results166, go_sem, rc0, rc1, rc2, rc3, rc4, rc5, rc6]) rfl (drawn_wrap rfl HS.out (Nat.le_trans HCO.out (by decide)) HT.out HC.out HH.out hlt [.int .i64 k, .int .i64 n, .int .i64 s, .string t, .slice A4 l.length c4, .slice A5 cl.length c5, .slice A6 rs.length c6])
  · go_wp2_with fail
    refine (drawTable g _ HCX.out).mono ?_; rintro e w3 ⟨⟨k, n, s, t, l, cl, rs, v4, v5, v6, rfl, hsm, hcost, hT0⟩, hcu, hch0⟩
    have hch : Chg (onlyB g) (W.alloc (.cells #[.int .i64 0, .int .i64 0, .int .i64 0, .string ⟨#[]⟩, .slice none 0 0, .slice none 0 0, .slice none 0 0] 28)) w3 := HHX.out.trans hch0
    have hT : DrawnT (W.alloc (.cells #[.int .i64 0, .int .i64 0, .int .i64 0, .string ⟨#[]⟩, .slice none 0 0, .slice none 0 0, .slice none 0 0] 28)).heap.size w3 l cl rs v4 v5 v6 := hT0.base HHX.out.size
    obtain ⟨A4, c4, A5, c5, A6, c6, rfl, rfl, rfl⟩ := hT.shape
    have hR := box_only hch hlt
    have rc0 := hR.cell (j := 0) rfl
    have y0 := hR.free 0
    have rc1 := hR.cell (j := 1) rfl
    have y1 := hR.free 1
    have rc2 := hR.cell (j := 2) rfl
    have y2 := hR.free 2
    have rc3 := hR.cell (j := 3) rfl
    have y3 := hR.free 3
    have rc4 := hR.cell (j := 4) rfl
    have y4 := hR.free 4
    have rc5 := hR.cell (j := 5) rfl
    have y5 := hR.free 5
    have rc6 := hR.cell (j := 6) rfl
    have y6 := hR.free 6
    have wz := hR.lt
    have HS := Lib.hid hsm; have HCO := Lib.hid hcost; have HT := Lib.hid hT; have HC := Lib.hid hcu; have HH := Lib.hid hch
    clear hR hsm hcost hT hT0 hcu hch hch0 HHX HCX
    go_wp2_with fail
    exact bodyPost_ret (v := .agg #[.int .i64 k, .int .i64 n, .int .i64 s, .string t, .slice A4 l.length c4, .slice A5 cl.length c5, .slice A6 rs.length c6]) (by simp [results, Try.results166, go_sem, rc0, rc1, rc2, rc3, rc4, rc5, rc6]) rfl (drawn_wrap rfl HS.out (Nat.le_trans HCO.out (by decide)) HT.out HC.out HH.out hlt [.int .i64 k, .int .i64 n, .int .i64 s, .string t, .slice A4 l.length c4, .slice A5 cl.length c5, .slice A6 rs.length c6])

end Go.Proofs.Ytghemlokpfipoaa
