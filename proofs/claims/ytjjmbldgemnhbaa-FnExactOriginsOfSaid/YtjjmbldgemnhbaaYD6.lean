/-
  Values: copies: toRowS, toValue, toValueS.
-/
import Derived.Test.YtjjmbldgemnhbaaYD5
namespace Go.Proofs.Ytjjmbldgemnhbaa
open Go.ChangeShapes Go.WideShapes Go.ChangeAt Go.RowKit
set_option linter.unusedVariables false
set_option linter.unusedSimpArgs false

theorem toRowS (l : List Rw) (W : World) (S : Nat → Prop) (v : Value) (h : SlAt W S 2 encR l v) (hn : l.length + sumN Rw.cost l ≤ 1048576) : Calls Try.prog 29 #[v] W fun r w' => CopyS W w' 2 encR l r ∧ Later W w' := by
  obtain ⟨A, c, rfl, hlc, hcm⟩ := sl_parts h
  have HE := Lib.hid h; clear h
  obtain ⟨i0, hi, hz0, hz1, hz2⟩ := info_parts info_row
  go_enter Try.func29, Try.ntmps29
  go_wp2_with (at_make; refine wpList_make_full _ rfl _ _ _ rfl W.heap.size 59 i0 (.agg #[.slice none 0 0, .slice none 0 0]) 2 Try.underlying38 hi hz0 hz1 .i64 .i64 _ _ l.length rfl rfl rfl rfl (by rw [hz2]; omega) (by simp only [maxLen]; omega) (Nat.le_refl _) ?_; intro w1 hown hgrow)
  obtain ⟨xs, hxs, hl1, hs1⟩ := madeOwn hown hgrow
  have HF := Lib.hid (Filling.start (enc := encR) hxs hl1 hs1)
  clear hown hgrow hi hz0 hz1 hz2 hxs hl1 hs1
  go_loopw [4] (fun i wr => ∃ j : Nat, j ≤ l.length ∧ i = .int .i64 j ∧ Filling W wr 59 2 encR l j) (fun i _ => l.length - (intOf i).toNat)
  case atStart => exact ⟨0, Nat.zero_le _, rfl, HF.out⟩
  case round =>
    clear HF
    obtain ⟨j, hj, rfl, hf⟩ := hrel
    by_cases hlt : j < l.length
    · obtain ⟨b, off, A1, c1, A2, c2, rfl, hb, _, hx, e0, e1⟩ := (HE.out.later hf.later_).rowAt hlt
      have hcost := sumN_mem Rw.cost (List.getElem_mem hlt)
      have C := fun W' (hW' : Later _ W') => toRow l[j] W' S _ (hx.later hW') (by omega)
      obtain ⟨X, hX⟩ : ∃ X, X = l[j] := ⟨_, rfl⟩
      rw [← hX] at e0 e1 C
      have HX := Lib.hid hX
      have HC := Lib.hid C
      have HF := Lib.hid hf
      clear C hX hf hx hcost
      go_wp2_with fail
      refine (HC.out _ (Later.rfl' _)).mono ?_; rintro r w2 ⟨⟨z1, d1, z2, d2, rfl, ho⟩, hl2⟩
      have hst := HF.out.step hlt hl2 (vs := [.slice z1 X.cells.length d1, .slice z2 X.from_.length d2]) rfl (by rw [← HX.out]; exact ho)
      obtain ⟨u0, k0, f0⟩ := HF.out.cell (p := j * 2) (by omega)
      obtain ⟨u1, k1, f1⟩ := HF.out.cell (p := j * 2 + 1) (by omega)
      have hW := World.block_lt_of_cell? _ _ k0
      have K0 := kept_cell hl2 k0
      have K1 := kept_cell hl2 k1
      have F0 := kept_free hl2 hW f0
      have F1 := kept_free hl2 hW f1
      have HS := Lib.hid hst
      clear hst hl2 k0 k1 f0 f1 e0 e1 hW ho
      go_wp2_with fail
      go_roundw
      case rel => exact ⟨j + 1, by omega, by go_num, HS.out⟩
      case measure => simp [intOf]; omega
    · have e : j = l.length := by omega
      subst e
      have HR := Lib.hid (hf.done encR_len (by omega))
      have HL := Lib.hid hf.later_
      clear hf
      go_wp2_with fail
      go_ret
      exact ⟨⟨_, rfl, HR.out⟩, HL.out⟩

/-- What toValue returns: the same value, in memory of its own. -/
def CopyV (W w' : World) (d : Vl) (r : Ending) : Prop := ∃ k n s t A1 n1 c1 A2 n2 c2 A3 n3 c3, r = .returned (.agg #[.int .i64 k, .int .i64 n, .int .i64 s, .string t, .slice A1 n1 c1, .slice A2 n2 c2, .slice A3 n3 c3]) ∧
  Owns w' (fun b => W.heap.size ≤ b ∧ b < w'.heap.size) (encV d) [.int .i64 k, .int .i64 n, .int .i64 s, .string t, .slice A1 n1 c1, .slice A2 n2 c2, .slice A3 n3 c3]
def ToQ (d : Vl) : Prop := d.cost ≤ 1048576 → ∀ (W : World) (S : Nat → Prop) (cs : List Value), Ats W S (encV d) cs → Calls Try.prog 14 #[.agg cs.toArray] W fun r w' => CopyV W w' d r ∧ Later W w'

theorem toValueS (l : List Vl) (hq : ∀ x, x ∈ l → ToQ x) (W : World) (S : Nat → Prop) (v : Value) (h : SlAt W S 7 encV l v) (hn : l.length + sumN Vl.cost l ≤ 1048576) : Calls Try.prog 27 #[v] W fun r w' => CopyS W w' 7 encV l r ∧ Later W w' := by
  obtain ⟨A, c, rfl, hlc, hcm⟩ := sl_parts h
  have HE := Lib.hid h; clear h
  have HQ := Lib.hid hq; clear hq
  obtain ⟨i0, hi, hz0, hz1, hz2⟩ := info_parts info_value
  go_enter Try.func27, Try.ntmps27
  go_wp2_with (at_make; refine wpList_make_full _ rfl _ _ _ rfl W.heap.size 40 i0 (.agg #[.int .i64 0, .int .i64 0, .int .i64 0, .string ByteArray.empty, .slice none 0 0, .slice none 0 0, .slice none 0 0]) 7 Try.underlying37 hi hz0 hz1 .i64 .i64 _ _ l.length rfl rfl rfl rfl (by rw [hz2]; omega) (by simp only [maxLen]; omega) (Nat.le_refl _) ?_; intro w1 hown hgrow)
  obtain ⟨xs, hxs, hl1, hs1⟩ := madeOwn hown hgrow
  have HF := Lib.hid (Filling.start (enc := encV) hxs hl1 hs1)
  clear hown hgrow hi hz0 hz1 hz2 hxs hl1 hs1
  go_loopw [4] (fun i wr => ∃ j : Nat, j ≤ l.length ∧ i = .int .i64 j ∧ Filling W wr 40 7 encV l j) (fun i _ => l.length - (intOf i).toNat)
  case atStart => exact ⟨0, Nat.zero_le _, rfl, HF.out⟩
  case round =>
    clear HF
    obtain ⟨j, hj, rfl, hf⟩ := hrel
    by_cases hlt : j < l.length
    · obtain ⟨b, off, y0, y1, y2, y3, A1, n1, c1, A2, n2, c2, A3, n3, c3, rfl, hb, _, hx, e0, e1, e2, e3, e4, e5, e6⟩ := (HE.out.later hf.later_).valAt hlt
      have hcost := sumN_mem Vl.cost (List.getElem_mem hlt)
      have C := fun W' (hW' : Later _ W') => HQ.out l[j] (List.getElem_mem hlt) (by omega) W' S _ (hx.later hW')
      obtain ⟨X, hX⟩ : ∃ X, X = l[j] := ⟨_, rfl⟩
      rw [← hX] at C
      have HX := Lib.hid hX
      have HC := Lib.hid C
      have HF := Lib.hid hf
      clear C hX hf hx hcost
      go_wp2_with fail
      refine (HC.out _ (Later.rfl' _)).mono ?_; rintro r w2 ⟨⟨x0, x1, x2, x3, B1, m1, d1, B2, m2, d2, B3, m3, d3, rfl, ho⟩, hl2⟩
      have hst := HF.out.step hlt hl2 (vs := [.int .i64 x0, .int .i64 x1, .int .i64 x2, .string x3, .slice B1 m1 d1, .slice B2 m2 d2, .slice B3 m3 d3]) rfl (by rw [← HX.out]; exact ho)
      obtain ⟨u0, k0, f0⟩ := HF.out.cell (p := j * 7) (by omega)
      obtain ⟨u1, k1, f1⟩ := HF.out.cell (p := j * 7 + 1) (by omega)
      obtain ⟨u2, k2, f2⟩ := HF.out.cell (p := j * 7 + 2) (by omega)
      obtain ⟨u3, k3, f3⟩ := HF.out.cell (p := j * 7 + 3) (by omega)
      obtain ⟨u4, k4, f4⟩ := HF.out.cell (p := j * 7 + 4) (by omega)
      obtain ⟨u5, k5, f5⟩ := HF.out.cell (p := j * 7 + 5) (by omega)
      obtain ⟨u6, k6, f6⟩ := HF.out.cell (p := j * 7 + 6) (by omega)
      have hW := World.block_lt_of_cell? _ _ k0
      have K0 := kept_cell hl2 k0
      have F0 := kept_free hl2 hW f0
      have K1 := kept_cell hl2 k1
      have F1 := kept_free hl2 hW f1
      have K2 := kept_cell hl2 k2
      have F2 := kept_free hl2 hW f2
      have K3 := kept_cell hl2 k3
      have F3 := kept_free hl2 hW f3
      have K4 := kept_cell hl2 k4
      have F4 := kept_free hl2 hW f4
      have K5 := kept_cell hl2 k5
      have F5 := kept_free hl2 hW f5
      have K6 := kept_cell hl2 k6
      have F6 := kept_free hl2 hW f6
      have HS := Lib.hid hst
      clear hst hl2 k0 k1 k2 k3 k4 k5 k6 f0 f1 f2 f3 f4 f5 f6 e0 e1 e2 e3 e4 e5 e6 hW ho
      go_wp2_with fail
      go_roundw
      case rel => exact ⟨j + 1, by omega, by go_num, HS.out⟩
      case measure => simp [intOf]; omega
    · have e : j = l.length := by omega
      subst e
      have HR := Lib.hid (hf.done encV_len (by omega))
      have HL := Lib.hid hf.later_
      clear hf
      go_wp2_with fail
      go_ret
      exact ⟨⟨_, rfl, HR.out⟩, HL.out⟩

set_option maxHeartbeats 1000000 in
theorem toValue : ∀ d, ToQ d := by
  refine Vl.ind fun k n s t l cl r ih hcost W S cs h => ?_
  obtain ⟨A1, c1, A2, c2, A3, c3, rfl, hb4, ⟨p1, q1⟩, ⟨p2, q2⟩, ⟨p3, q3⟩, g1, g2, g3⟩ := h.val
  rw [Vl.cost_mk] at hcost
  have hcl : cl.length ≤ costS cl := by unfold costS; omega
  have C1 := fun W' (hW' : Later W W') => toValueS l ih W' S _ (g1.later hW') (by omega)
  have C2 := fun W' (hW' : Later W W') => copyStrs cl W' S _ (g2.later hW') (by omega)
  have C3 := fun W' (hW' : Later W W') => toRowS r W' S _ (g3.later hW') (by omega)
  have H1 := Lib.hid C1
  have H2 := Lib.hid C2
  have H3 := Lib.hid C3
  have HB := Lib.hid hb4
  clear C1 C2 C3 g1 g2 g3 h ih hcost hcl hb4
  go_enter Try.func14, Try.ntmps14
  go_wp2_with fail
  refine (H1.out _ ((((Later.rfl' _).alloc _).alloc _).alloc _)).mono ?_; rintro e w1 ⟨⟨v1, rfl, o1⟩, hb1⟩
  obtain ⟨A1', d1, rfl, _, _⟩ := sl_parts o1.at_
  obtain ⟨P, R, B, hs, L⟩ := box3 hb1
  have p5 := P.cell (j := 5) rfl
  have k4 := B.cell (j := 4) rfl
  have f4 := B.free 4
  have P1 := Lib.hid (P.other 4 (.slice A1' l.length d1) (show W.heap.size ≠ W.heap.size + 1 + 1 by omega))
  have R1 := Lib.hid (R.other 4 (.slice A1' l.length d1) (show W.heap.size + 1 ≠ W.heap.size + 1 + 1 by omega))
  have B1 := Lib.hid (B.set 4 (.slice A1' l.length d1))
  have L1 := Lib.hid (L.set (show W.heap.size ≤ W.heap.size + 1 + 1 by omega) 4 (.slice A1' l.length d1))
  have O1 : Hid (Own (w1.setCell ⟨W.heap.size + 1 + 1, 4, none⟩ (.slice A1' l.length d1)) (fun b => W.heap.size + 3 ≤ b ∧ b < w1.heap.size) (.sl 7 l.length (l.flatMap encV)) (.slice A1' l.length d1)) :=
    (o1.chg (S' := fun b => b = W.heap.size + 1 + 1) (Chg.set (o := 4) (u := .slice A1' l.length d1) (Chg.rfl' _ w1) rfl) fun b h1 h2 => by simp only [World.size_alloc] at h1; omega).more fun b h1 => by simp only [World.size_alloc] at h1; omega
  have Z1 := Lib.hid hs
  clear hb1 o1 P R B L hs
  go_wp2_with fail
  refine (H2.out _ L1.out).mono ?_; rintro e w2 ⟨⟨v2, rfl, o2⟩, hb2⟩
  obtain ⟨A2', d2, rfl, _, _⟩ := sl_parts o2.at_
  have P := P1.out.later hb2
  have R := R1.out.later hb2
  have B := B1.out.later hb2
  have hs2 := hb2.size
  simp only [World.size_setCell] at hs2
  have p6 := P.cell (j := 6) rfl
  have k5 := B.cell (j := 5) rfl
  have f5 := B.free 5
  have hz1 := Z1.out
  have O1' : Hid (Own (w2.setCell ⟨W.heap.size + 1 + 1, 5, none⟩ (.slice A2' cl.length d2)) (fun b => W.heap.size + 3 ≤ b ∧ b < w1.heap.size) (.sl 7 l.length (l.flatMap encV)) (.slice A1' l.length d1)) :=
    (O1.out.later hb2).chg (S' := fun b => b = W.heap.size + 1 + 1) (Chg.set (o := 5) (u := .slice A2' cl.length d2) (Chg.rfl' _ w2) rfl) fun b h1 h2 => by omega
  have O2 : Hid (Own (w2.setCell ⟨W.heap.size + 1 + 1, 5, none⟩ (.slice A2' cl.length d2)) (fun b => w1.heap.size ≤ b ∧ b < w2.heap.size) (.sl 1 cl.length (cl.flatMap encS)) (.slice A2' cl.length d2)) :=
    (o2.chg (S' := fun b => b = W.heap.size + 1 + 1) (Chg.set (o := 5) (u := .slice A2' cl.length d2) (Chg.rfl' _ w2) rfl) fun b h1 h2 => by simp only [World.size_setCell] at h1; omega).more fun b h1 => by simp only [World.size_setCell] at h1; omega
  have R2 := Lib.hid (R.other 5 (.slice A2' cl.length d2) (show W.heap.size + 1 ≠ W.heap.size + 1 + 1 by omega))
  have B2 := Lib.hid (B.set 5 (.slice A2' cl.length d2))
  have L2 := Lib.hid ((L1.out.trans hb2).set (show W.heap.size ≤ W.heap.size + 1 + 1 by omega) 5 (.slice A2' cl.length d2))
  have Z2 := Lib.hid hs2
  clear hb2 o2 P R B O1 P1 R1 B1 L1 p5 k4 f4 hs2 hz1 H1 H2
  go_wp2_with fail
  refine (H3.out _ L2.out).mono ?_; rintro e w3 ⟨⟨v3, rfl, o3⟩, hb3⟩
  obtain ⟨A3', d3, rfl, _, _⟩ := sl_parts o3.at_
  have R := R2.out.later hb3
  have B := B2.out.later hb3
  have hs3 := hb3.size
  simp only [World.size_setCell] at hs3
  have hz1 := Z1.out
  have hz2 := Z2.out
  have z0 := R.cell (j := 0) rfl
  have y0 := R.free 0
  have b0 := B.cell (j := 0) rfl
  have z1 := R.cell (j := 1) rfl
  have y1 := R.free 1
  have b1 := B.cell (j := 1) rfl
  have z2 := R.cell (j := 2) rfl
  have y2 := R.free 2
  have b2 := B.cell (j := 2) rfl
  have z3 := R.cell (j := 3) rfl
  have y3 := R.free 3
  have b3 := B.cell (j := 3) rfl
  have z4 := R.cell (j := 4) rfl
  have y4 := R.free 4
  have b4 := B.cell (j := 4) rfl
  have z5 := R.cell (j := 5) rfl
  have y5 := R.free 5
  have b5 := B.cell (j := 5) rfl
  have z6 := R.cell (j := 6) rfl
  have y6 := R.free 6
  have b6 := B.cell (j := 6) rfl
  have f6 := B.free 6
  have hcg : Chg (fun b => b = W.heap.size + 1 ∨ b = W.heap.size + 1 + 1) w3 (setFrom (setFrom w3 (W.heap.size + 1 + 1) 6 [.slice A3' r.length d3]) (W.heap.size + 1) 0 [.int .i64 k, .int .i64 n, .int .i64 s, .string t, .slice A1' l.length d1, .slice A2' cl.length d2, .slice A3' r.length d3]) :=
    Chg.set (Chg.set (Chg.set (Chg.set (Chg.set (Chg.set (Chg.set (Chg.set (Chg.rfl' _ w3) (.inr rfl)) (.inl rfl)) (.inl rfl)) (.inl rfl)) (.inl rfl)) (.inl rfl)) (.inl rfl)) (.inl rfl)
  have hsz : (World.heap (setFrom (setFrom w3 (W.heap.size + 1 + 1) 6 [.slice A3' r.length d3]) (W.heap.size + 1) 0 [.int .i64 k, .int .i64 n, .int .i64 s, .string t, .slice A1' l.length d1, .slice A2' cl.length d2, .slice A3' r.length d3])).size = w3.heap.size := by rw [size_setFrom, size_setFrom]
  have HR : Hid (Owns (setFrom (setFrom w3 (W.heap.size + 1 + 1) 6 [.slice A3' r.length d3]) (W.heap.size + 1) 0 [.int .i64 k, .int .i64 n, .int .i64 s, .string t, .slice A1' l.length d1, .slice A2' cl.length d2, .slice A3' r.length d3]) (fun b => W.heap.size ≤ b ∧ b < w3.heap.size) (encV (.mk k n s t l cl r)) [.int .i64 k, .int .i64 n, .int .i64 s, .string t, .slice A1' l.length d1, .slice A2' cl.length d2, .slice A3' r.length d3]) := by
    have q1 := (O1'.out.later hb3).chg hcg fun b h1 h2 => by omega
    have q2 := (O2.out.later hb3).chg hcg fun b h1 h2 => by omega
    have q3 := o3.chg hcg fun b h1 h2 => by simp only [World.size_setCell] at h1; omega
    have q3 := q3.more (S' := fun b => w2.heap.size ≤ b ∧ b < w3.heap.size) fun b h1 => by simp only [World.size_setCell] at h1; omega
    have hbb := HB.out
    unfold Hid
    rw [encV, encVs_eq]
    refine Owns.more (S := fun b => W.heap.size + 3 ≤ b ∧ b < w3.heap.size) (Owns.leaf' (.int _ _ hbb.1) (Owns.leaf' (.int _ _ hbb.2.1) (Owns.leaf' (.int _ _ hbb.2.2.1) (Owns.leaf' (.str _ _ hbb.2.2.2) (Owns.cons q1 (Owns.cons (U := fun b => w1.heap.size ≤ b ∧ b < w3.heap.size) q2 (Owns.cons (U := fun b => w2.heap.size ≤ b ∧ b < w3.heap.size) q3 (owns_nil _ (fun _ => False)) ?_ ?_ ?_) ?_ ?_ ?_) ?_ ?_ ?_))))) ?_
    all_goals (intro b; first | omega | (intro h; omega) | (intro h1 h2; omega) | (intro h1 h2; exact h2) | (intro h; exact h) | (intro h; exact False.elim h))
  have HL : Hid (Later W (setFrom (setFrom w3 (W.heap.size + 1 + 1) 6 [.slice A3' r.length d3]) (W.heap.size + 1) 0 [.int .i64 k, .int .i64 n, .int .i64 s, .string t, .slice A1' l.length d1, .slice A2' cl.length d2, .slice A3' r.length d3])) := later_setFrom (by omega) _ _ _ (later_setFrom (by omega) _ _ _ (L2.out.trans hb3))
  rw [← hsz] at HR
  clear hcg hsz R B R2 B2 L2 O1' O2 H3 hb3 o3 Z1 Z2 p6 k5 f5 HB hs3 hz1 hz2
  go_wp2_with fail
  exact bodyPost_ret (v := .agg #[.int .i64 k, .int .i64 n, .int .i64 s, .string t, .slice A1' l.length d1, .slice A2' cl.length d2, .slice A3' r.length d3]) (by simp [results, Try.results14, go_sem, z0, z1, z2, z3, z4, z5, z6]) rfl ⟨⟨_, _, _, _, _, _, _, _, _, _, _, _, _, rfl, HR.out⟩, HL.out⟩
end Go.Proofs.Ytjjmbldgemnhbaa
