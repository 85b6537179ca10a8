/-
  Draws of values: l3Bent: the walk.
-/
import Derived.Test.YtghemlokpfipoaaYMGA
namespace Go.Proofs.Ytghemlokpfipoaa
open Go.ChangeShapes Go.WideShapes Go.ChangeAt Go.RowKit
set_option linter.unusedVariables false
set_option linter.unusedSimpArgs false
set_option maxRecDepth 100000

/-- Bounds of a bent value's own parts. -/
def SmallB (k n s : Int) (t : ByteArray) : Prop := (-100 ≤ k ∧ k ≤ 100) ∧ (-1000000000 ≤ n ∧ n ≤ 2000000000) ∧ (-1000000000 ≤ s ∧ s ≤ 1000000000) ∧ t.size ≤ 200
theorem SmallB.between {k n s : Int} {t : ByteArray} (h : SmallB k n s t) : Between64 k ∧ Between64 n ∧ Between64 s ∧ t.size ≤ 9223372036854775807 := by
  obtain ⟨h1, h2, h3, h4⟩ := h
  unfold Between64
  omega
theorem drawn_trio {lo HV : Nat} {w : World} {l : List Vl} {cl : List ByteArray} {rs : List Rw} {v4 v5 v6 : Value} (h : DrawnT lo w l cl rs v4 v5 v6) (hHV : w.heap.size ≤ HV) : Trio lo HV w l cl rs v4 v5 v6 := by
  obtain ⟨S1, S2, S3, h1, hh⟩ := h
  exact ⟨S1, S2, S3, fun b hb => ⟨(h1 b hb).1, (h1 b hb).2, by have := (h1 b hb).2; omega⟩, hh⟩
def BentAt (g HV : Nat) (W w : World) (zc : List Value) : Prop := ∃ k n s t l cl rs v4 v5 v6, SmallB k n s t ∧ (Vl.mk k n s t l cl rs).cost ≤ 121000 ∧ Box w W.heap.size zc ∧ Box w HV [.int .i64 k, .int .i64 n, .int .i64 s, .string t, v4, v5, v6] ∧
  Trio (W.heap.size + 1) HV w l cl rs v4 v5 v6 ∧ CurAt w g ∧ Chg (freshB g W.heap.size) W w
/-- A cell of the value's variable is written. -/
theorem put_bent {g HV p lo : Nat} {u : Value} {W w : World} {zc : List Value} {l : List Vl} {cl : List ByteArray} {rs : List Rw} {v4 v5 v6 : Value} (hR : Box w W.heap.size zc) (hT : Trio lo HV w l cl rs v4 v5 v6) (hcu : CurAt w g) (hch : Chg (freshB g W.heap.size) W w) (h1 : W.heap.size < HV) (h2 : g < W.heap.size) :
    Box (w.setCell ⟨HV, p, none⟩ u) W.heap.size zc ∧ Trio lo HV (w.setCell ⟨HV, p, none⟩ u) l cl rs v4 v5 v6 ∧ CurAt (w.setCell ⟨HV, p, none⟩ u) g ∧ Chg (freshB g W.heap.size) W (w.setCell ⟨HV, p, none⟩ u) := by
  have c : Chg (fun b => b = HV) w (w.setCell ⟨HV, p, none⟩ u) := (Chg.rfl' _ w).set rfl
  exact ⟨hR.other p u (by omega), hT.chg c fun b _ _ h3 h => h3 h, hcu.chg c fun b hb h => by omega, hch.trans (c.more fun k hk => .inr (by omega))⟩
theorem fresh_ints (w : World) : Own (w.alloc (.cells #[.int .i64 1] 3)) (fun b => b = w.heap.size) (.sl 1 1 [.int 1]) (.slice (some ⟨w.heap.size, 0, none⟩) 1 1) := by
  have h : (w.alloc (.cells #[.int .i64 1] 3)).ownsRow 0 3 1 (.slice (some ⟨w.heap.size, 0, none⟩) 1 1) 1 [.int .i64 1] :=
    ⟨by simp, .inr ⟨w.heap.size, 1, _, rfl, Nat.zero_le _, heap_alloc_new w _, Nat.le_refl _, by simp only [maxLen]; omega, by simp, by simp⟩⟩
  refine Own.of_row noB h rfl (fun g hg => ⟨by simp only [Value.ownBlock, Option.some.injEq] at hg; exact hg.symm, fun _ h => h⟩) (fun _ _ h => False.elim h) (fun _ _ _ _ h => False.elim h) (fun i d u hd hu => ?_)
  match i, hd, hu with
  | 0, hd, hu =>
    simp at hd hu
    subst hd hu
    exact .int _ _ (by unfold Between64; omega)
theorem fresh_origs (w : World) : Own (w.alloc (.cells #[.int .i64 2, .int .i64 1, .int .i64 1, .int .i64 1] 101)) (fun b => b = w.heap.size) (.sl 2 2 [.int 2, .int 1, .int 1, .int 1]) (.slice (some ⟨w.heap.size, 0, none⟩) 2 2) := by
  have h : (w.alloc (.cells #[.int .i64 2, .int .i64 1, .int .i64 1, .int .i64 1] 101)).ownsRow 0 101 2 (.slice (some ⟨w.heap.size, 0, none⟩) 2 2) 2 [.int .i64 2, .int .i64 1, .int .i64 1, .int .i64 1] :=
    ⟨by simp, .inr ⟨w.heap.size, 2, _, rfl, Nat.zero_le _, heap_alloc_new w _, Nat.le_refl _, by simp only [maxLen]; omega, by simp, by simp⟩⟩
  refine Own.of_row noB h rfl (fun g hg => ⟨by simp only [Value.ownBlock, Option.some.injEq] at hg; exact hg.symm, fun _ h => h⟩) (fun _ _ h => False.elim h) (fun _ _ _ _ h => False.elim h) (fun i d u hd hu => ?_)
  match i, hd, hu with
  | 0, hd, hu => simp at hd hu; subst hd hu; exact .int _ _ (by unfold Between64; omega)
  | 1, hd, hu => simp at hd hu; subst hd hu; exact .int _ _ (by unfold Between64; omega)
  | 2, hd, hu => simp at hd hu; subst hd hu; exact .int _ _ (by unfold Between64; omega)
  | 3, hd, hu => simp at hd hu; subst hd hu; exact .int _ _ (by unfold Between64; omega)
theorem fresh_row (w : World) : Owns ((w.alloc (.cells #[.int .i64 1] 3)).alloc (.cells #[.int .i64 2, .int .i64 1, .int .i64 1, .int .i64 1] 101))
    (fun b => w.heap.size ≤ b ∧ b < ((w.alloc (.cells #[.int .i64 1] 3)).alloc (.cells #[.int .i64 2, .int .i64 1, .int .i64 1, .int .i64 1] 101)).heap.size)
    (encR ⟨[1], [(2, 1), (1, 1)]⟩) [.slice (some ⟨w.heap.size, 0, none⟩) 1 1, .slice (some ⟨w.heap.size + 1, 0, none⟩) 2 2] := by
  have h1 := (fresh_ints w).later ((Later.rfl' _).alloc (.cells #[.int .i64 2, .int .i64 1, .int .i64 1, .int .i64 1] 101))
  have h2 := fresh_origs (w.alloc (.cells #[.int .i64 1] 3))
  rw [World.size_alloc] at h2
  show Owns _ _ [.sl 1 1 [.int 1], .sl 2 2 [.int 2, .int 1, .int 1, .int 1]] _
  exact Owns.cons h1 (Owns.cons (S := fun _ => False) h2 (owns_nil _ _) (fun b h => h) (fun _ h => False.elim h) (fun _ _ h => h)) (fun b h => ⟨by omega, by simp; omega⟩) (fun b h => ⟨by omega, by simp; omega⟩) (fun b h k => by omega)

theorem sumN_app {α : Type} (f : α → Nat) (l m : List α) : sumN f (l ++ m) = sumN f l + sumN f m := by unfold sumN; rw [List.map_append, List.sum_append]
theorem sumN_single {α : Type} (f : α → Nat) (x : α) : sumN f [x] = f x := by simp [sumN]
theorem costS_snoc (cl : List ByteArray) (x : ByteArray) : costS (cl ++ [x]) = costS cl + (1 + x.size) := by unfold costS; rw [List.map_append, List.sum_append]; simp; omega
set_option maxHeartbeats 16000000 in
theorem drawBent (g : Nat) (W : World) (hc : CurAt W g) : Calls Try.prog 124 #[.pointer (some ⟨g, 0, none⟩)] W fun r w' => DrawnV 121000 g W w' r := by
  have hlt := hc.lt
  have HC0 := Lib.hid (hc.later ((Later.rfl' W).alloc (.cells #[.int .i64 0, .int .i64 0, .int .i64 0, .string ⟨#[]⟩, .slice none 0 0, .slice none 0 0, .slice none 0 0] 28)))
  clear hc
  go_enter Try.func124, Try.ntmps124
  go_wp2_with fail
  refine (drawValue g _ HC0.out).mono ?_; rintro e w1 ⟨⟨k, n, s, t, l, cl, rs, v4, v5, v6, rfl, hsm, hcost, hT0⟩, hcu, hch⟩
  obtain ⟨A4, c4, A5, c5, A6, c6, rfl, rfl, rfl⟩ := hT0.shape
  have hR1 := box_only hch hlt
  have hsz1 := hch.size
  rw [World.size_alloc] at hsz1 hT0
  have hHV1 : W.heap.size < w1.heap.size := by omega
  have hb4 : l.length ≤ 60000 ∧ cl.length ≤ 60000 ∧ rs.length ≤ 60000 := by rw [Vl.cost_mk] at hcost; unfold costS at hcost; omega
  have HV1 := Lib.hid (box_alloc w1 #[.int .i64 k, .int .i64 n, .int .i64 s, .string t, .slice A4 l.length c4, .slice A5 cl.length c5, .slice A6 rs.length c6] 28)
  have HR1 := Lib.hid (hR1.later ((Later.rfl' w1).alloc (.cells #[.int .i64 k, .int .i64 n, .int .i64 s, .string t, .slice A4 l.length c4, .slice A5 cl.length c5, .slice A6 rs.length c6] 28)))
  have HT1 := Lib.hid ((drawn_trio hT0 (Nat.le_refl _)).later ((Later.rfl' w1).alloc (.cells #[.int .i64 k, .int .i64 n, .int .i64 s, .string t, .slice A4 l.length c4, .slice A5 cl.length c5, .slice A6 rs.length c6] 28)))
  have HC1 := Lib.hid (hcu.later ((Later.rfl' w1).alloc (.cells #[.int .i64 k, .int .i64 n, .int .i64 s, .string t, .slice A4 l.length c4, .slice A5 cl.length c5, .slice A6 rs.length c6] 28)))
  have HH1 := Lib.hid (((((Later.rfl' W).alloc (.cells #[.int .i64 0, .int .i64 0, .int .i64 0, .string ⟨#[]⟩, .slice none 0 0, .slice none 0 0, .slice none 0 0] 28)).chg (freshB g W.heap.size)).trans (hch.more fun k hk => .inl hk)).trans (((Later.rfl' w1).alloc (.cells #[.int .i64 k, .int .i64 n, .int .i64 s, .string t, .slice A4 l.length c4, .slice A5 cl.length c5, .slice A6 rs.length c6] 28)).chg _))
  have HS := Lib.hid hsm; have HCO := Lib.hid hcost; have HB4 := Lib.hid hb4
  clear hR1 hT0 hcu hch hsm hcost HC0 hb4
  go_wp2_with fail
  refine (drawBelow 16 g (by omega) (by omega) _ HC1.out).mono ?_; rintro e w2 ⟨⟨m, hm, rfl⟩, hcu, hch⟩
  have HR2 := Lib.hid (HR1.out.chg hch (fun h => by unfold onlyB at h; omega))
  have HV2 := Lib.hid (HV1.out.chg hch (fun h => by unfold onlyB at h; omega))
  have HT2 := Lib.hid (HT1.out.chg hch (fun b _ _ _ h => by unfold onlyB at h; omega))
  have HC2 := Lib.hid hcu
  have HH2 := Lib.hid (HH1.out.trans (hch.more (S' := freshB g W.heap.size) fun k hk => .inl hk))
  have hsz2 := HV2.out.lt
  clear hcu hch HR1 HV1 HT1 HC1 HH1
  have hm8 : m = 0 ∨ m = 1 ∨ m = 2 ∨ m = 3 ∨ m = 4 ∨ m = 5 ∨ m = 6 ∨ 7 ≤ m := by omega
  clear hm
  rcases hm8 with rfl | rfl | rfl | rfl | rfl | rfl | rfl | hm7
  · have hnn : -1000000000 ≤ n ∧ n ≤ 1000000000 := HS.out.2.1
    have hput := put_bent (p := 1) (u := .int .i64 (n + 1000000000)) HR2.out HT2.out HC2.out HH2.out hHV1 hlt
    have kp := HV2.out.cell (j := 1) rfl
    have fp := HV2.out.free 1
    have hbt := SmallB.between (show SmallB k (n + 1000000000) s t from (by have := HS.out; unfold SmallD at this; unfold SmallB; refine ⟨by omega, by omega, by omega, by omega⟩))
    have HOW := Lib.hid ((hput.2.1).drawn.owns hbt.1 hbt.2.1 hbt.2.2.1 hbt.2.2.2)
    have HCX := Lib.hid (hput.2.2.1); have HHX := Lib.hid (hput.2.2.2)
    have HCOX := Lib.hid (show (Vl.mk k (n + 1000000000) s t l cl rs).cost ≤ 121000 from (by have := HCO.out; rw [Vl.cost_mk] at *; omega))
    have hRx := hput.1
    have hVx := HV2.out.set 1 (.int .i64 (n + 1000000000))
    have rc0 := hRx.cell (j := 0) rfl
    have y0 := hRx.free 0
    have rc1 := hRx.cell (j := 1) rfl
    have y1 := hRx.free 1
    have rc2 := hRx.cell (j := 2) rfl
    have y2 := hRx.free 2
    have rc3 := hRx.cell (j := 3) rfl
    have y3 := hRx.free 3
    have rc4 := hRx.cell (j := 4) rfl
    have y4 := hRx.free 4
    have rc5 := hRx.cell (j := 5) rfl
    have y5 := hRx.free 5
    have rc6 := hRx.cell (j := 6) rfl
    have y6 := hRx.free 6
    have wz := hRx.lt
    have zz0 := hVx.cell (j := 0) rfl
    have zf0 := hVx.free 0
    have zz1 := hVx.cell (j := 1) rfl
    have zf1 := hVx.free 1
    have zz2 := hVx.cell (j := 2) rfl
    have zf2 := hVx.free 2
    have zz3 := hVx.cell (j := 3) rfl
    have zf3 := hVx.free 3
    have zz4 := hVx.cell (j := 4) rfl
    have zf4 := hVx.free 4
    have zz5 := hVx.cell (j := 5) rfl
    have zf5 := hVx.free 5
    have zz6 := hVx.cell (j := 6) rfl
    have zf6 := hVx.free 6
    have wv := hVx.lt
    clear hRx hVx hbt hput HR2 HV2 HT2 HC2 HH2 HS HCO
    go_wp2_with fail
    exact bodyPost_ret (v := .agg #[.int .i64 k, .int .i64 (n + 1000000000), .int .i64 s, .string t, .slice A4 l.length c4, .slice A5 cl.length c5, .slice A6 rs.length c6]) (by simp [results, Try.results124, go_sem, rc0, rc1, rc2, rc3, rc4, rc5, rc6]) rfl (fill_end rfl HOW.out HCX.out HHX.out hlt HCOX.out [.int .i64 k, .int .i64 (n + 1000000000), .int .i64 s, .string t, .slice A4 l.length c4, .slice A5 cl.length c5, .slice A6 rs.length c6])
  · have htz : t.size ≤ 100 := HS.out.2.2.2
    obtain ⟨T, hT⟩ : ∃ T, T = t ++ ⟨#[120, 34, 121]⟩ := ⟨_, rfl⟩
    have hTs : T.size = t.size + 3 := by rw [hT, ByteArray.size_append]; rfl
    have hT2 := hT.symm
    have HTS := Lib.hid hTs
    clear hT hTs
    have hput := put_bent (p := 3) (u := .string T) HR2.out HT2.out HC2.out HH2.out hHV1 hlt
    have kp := HV2.out.cell (j := 3) rfl
    have fp := HV2.out.free 3
    have hbt := SmallB.between (show SmallB k n s T from (by have := HS.out; have := HTS.out; unfold SmallD at *; unfold SmallB; refine ⟨by omega, by omega, by omega, by omega⟩))
    have HOW := Lib.hid ((hput.2.1).drawn.owns hbt.1 hbt.2.1 hbt.2.2.1 hbt.2.2.2)
    have HCX := Lib.hid (hput.2.2.1); have HHX := Lib.hid (hput.2.2.2)
    have HCOX := Lib.hid (show (Vl.mk k n s T l cl rs).cost ≤ 121000 from (by have h1 := HCO.out; have := HTS.out; rw [Vl.cost_mk] at *; omega))
    have hRx := hput.1
    have hVx := HV2.out.set 3 (.string T)
    have rc0 := hRx.cell (j := 0) rfl
    have y0 := hRx.free 0
    have rc1 := hRx.cell (j := 1) rfl
    have y1 := hRx.free 1
    have rc2 := hRx.cell (j := 2) rfl
    have y2 := hRx.free 2
    have rc3 := hRx.cell (j := 3) rfl
    have y3 := hRx.free 3
    have rc4 := hRx.cell (j := 4) rfl
    have y4 := hRx.free 4
    have rc5 := hRx.cell (j := 5) rfl
    have y5 := hRx.free 5
    have rc6 := hRx.cell (j := 6) rfl
    have y6 := hRx.free 6
    have wz := hRx.lt
    have zz0 := hVx.cell (j := 0) rfl
    have zf0 := hVx.free 0
    have zz1 := hVx.cell (j := 1) rfl
    have zf1 := hVx.free 1
    have zz2 := hVx.cell (j := 2) rfl
    have zf2 := hVx.free 2
    have zz3 := hVx.cell (j := 3) rfl
    have zf3 := hVx.free 3
    have zz4 := hVx.cell (j := 4) rfl
    have zf4 := hVx.free 4
    have zz5 := hVx.cell (j := 5) rfl
    have zf5 := hVx.free 5
    have zz6 := hVx.cell (j := 6) rfl
    have zf6 := hVx.free 6
    have wv := hVx.lt
    clear hRx hVx hbt hput HR2 HV2 HT2 HC2 HH2 HS HCO
    go_wp2_with fail
    exact bodyPost_ret (v := .agg #[.int .i64 k, .int .i64 n, .int .i64 s, .string T, .slice A4 l.length c4, .slice A5 cl.length c5, .slice A6 rs.length c6]) (by simp [results, Try.results124, go_sem, rc0, rc1, rc2, rc3, rc4, rc5, rc6]) rfl (fill_end rfl HOW.out HCX.out HHX.out hlt HCOX.out [.int .i64 k, .int .i64 n, .int .i64 s, .string T, .slice A4 l.length c4, .slice A5 cl.length c5, .slice A6 rs.length c6])
  · go_wp2_with fail
    refine (drawBelow 8 g (by omega) (by omega) _ HC2.out).mono ?_; rintro e w3 ⟨⟨x, hx, rfl⟩, hcu, hch⟩
    have hR3 := HR2.out.chg hch (fun h => by unfold onlyB at h; omega)
    have hV3 := HV2.out.chg hch (fun h => by unfold onlyB at h; omega)
    have hT3 := HT2.out.chg hch (fun b _ _ _ h => by unfold onlyB at h; omega)
    have hput := put_bent (p := 0) (u := .int .i64 (x : Int)) hR3 hT3 hcu (HH2.out.trans (hch.more (S' := freshB g W.heap.size) fun k hk => .inl hk)) hHV1 hlt
    have kp := hV3.cell (j := 0) rfl
    have fp := hV3.free 0
    have hvl := hV3.lt
    have hbt := SmallB.between (show SmallB (x : Int) n s t from (by have := HS.out; unfold SmallD at this; unfold SmallB; refine ⟨by omega, by omega, by omega, by omega⟩))
    have HOW := Lib.hid ((hput.2.1).drawn.owns hbt.1 hbt.2.1 hbt.2.2.1 hbt.2.2.2)
    have HCX := Lib.hid (hput.2.2.1); have HHX := Lib.hid (hput.2.2.2)
    have HCOX := Lib.hid (show (Vl.mk (x : Int) n s t l cl rs).cost ≤ 121000 from (by have := HCO.out; rw [Vl.cost_mk] at *; omega))
    have hRx := hput.1
    have hVx := hV3.set 0 (.int .i64 (x : Int))
    have rc0 := hRx.cell (j := 0) rfl
    have y0 := hRx.free 0
    have rc1 := hRx.cell (j := 1) rfl
    have y1 := hRx.free 1
    have rc2 := hRx.cell (j := 2) rfl
    have y2 := hRx.free 2
    have rc3 := hRx.cell (j := 3) rfl
    have y3 := hRx.free 3
    have rc4 := hRx.cell (j := 4) rfl
    have y4 := hRx.free 4
    have rc5 := hRx.cell (j := 5) rfl
    have y5 := hRx.free 5
    have rc6 := hRx.cell (j := 6) rfl
    have y6 := hRx.free 6
    have wz := hRx.lt
    have zz0 := hVx.cell (j := 0) rfl
    have zf0 := hVx.free 0
    have zz1 := hVx.cell (j := 1) rfl
    have zf1 := hVx.free 1
    have zz2 := hVx.cell (j := 2) rfl
    have zf2 := hVx.free 2
    have zz3 := hVx.cell (j := 3) rfl
    have zf3 := hVx.free 3
    have zz4 := hVx.cell (j := 4) rfl
    have zf4 := hVx.free 4
    have zz5 := hVx.cell (j := 5) rfl
    have zf5 := hVx.free 5
    have zz6 := hVx.cell (j := 6) rfl
    have zf6 := hVx.free 6
    have wv := hVx.lt
    clear hRx hVx hbt hput HR2 HV2 HT2 HC2 HH2 HS HCO hR3 hV3 hT3 hcu hch
    go_wp2_with fail
    exact bodyPost_ret (v := .agg #[.int .i64 (x : Int), .int .i64 n, .int .i64 s, .string t, .slice A4 l.length c4, .slice A5 cl.length c5, .slice A6 rs.length c6]) (by simp [results, Try.results124, go_sem, rc0, rc1, rc2, rc3, rc4, rc5, rc6]) rfl (fill_end rfl HOW.out HCX.out HHX.out hlt HCOX.out [.int .i64 (x : Int), .int .i64 n, .int .i64 s, .string t, .slice A4 l.length c4, .slice A5 cl.length c5, .slice A6 rs.length c6])
  · have kp := HV2.out.cell (j := 4) rfl
    have hzO := HV2.out.lt
    have hszO : W.heap.size + 1 ≤ w2.heap.size := by omega
    have hb4 := HB4.out
    obtain ⟨i0, hi, hz0, hz1, hz2⟩ := info_parts info_value
    have hjn : (l.length + 1) * 112 ≤ 140737488355328 := by omega
    have hjm : l.length + 1 ≤ maxLen := by unfold maxLen; omega
    go_wp2_with fail
    go_region_law (first
      | (refine step_append_lies _ rfl (.tmp 28) (.tmp 31) 24 rfl 0 28 i0 (.agg #[.int .i64 0, .int .i64 0, .int .i64 0, .string ByteArray.empty, .slice none 0 0, .slice none 0 0, .slice none 0 0]) 7 112 Try.underlying24 hi hz0 hz1 hz2 rfl (by decide) (.slice A4 l.length c4) l.length ys (by simp [Act.eval, Act.put]) a1 ⟨w3.heap.size, 0, none⟩ 1 1 [.int .i64 k', .int .i64 n', .int .i64 s', .string t', .slice B4' l'.length d4, .slice B5' cl'.length d5, .slice B6' rs'.length d6] (by simp [Act.eval, Act.put]) a2 a4.out a3.out (by omega) hjm hjn (Nat.zero_le _) (w3.heap.size + 1) (by simp) ?_; intro gg cap w4 ho4 hg4 hat4 hlt4; obtain ⟨B4, HFN⟩ := a5.out gg cap w4 ho4 hg4 hat4; have m4 := B4.cell (j := 4) rfl; have mf := B4.free 4; clear ho4 hg4 hat4 B4)
      | (go_simp; go_at_call 166; refine (drawValue g _ (HC2.out.later (Later.rfl' _).drew)).mono ?_; rintro e w3 ⟨⟨k', n', s', t', l', cl', rs', u4, u5, u6, rfl, hsd, hcost, hT3⟩, hcu3, hch3⟩; obtain ⟨B4', d4, B5', d5, B6', d6, rfl, rfl, rfl⟩ := hT3.shape; have hbt := hsd.between; have HCO3 := Lib.hid hcost; have HC3 := Lib.hid hcu3; have HCH3 := Lib.hid ((((Later.rfl' w2).drew).chg (onlyB g)).trans hch3); have HALL := Lib.hid (trio_list (p := 4) 28 HT2.out HV2.out HCH3.out (fun b h => by unfold onlyB at h; omega) hszO (hT3.owns hbt.1 hbt.2.1 hbt.2.2.1 hbt.2.2.2)); obtain ⟨b2, ys, a1, a2, a3, a4, a5⟩ := HALL.out; have k2 := b2.cell (j := 4) rfl; have z2' := b2.lt; replace a3 := Lib.hid a3; replace a4 := Lib.hid a4; replace a5 := Lib.hid a5; clear b2 HALL hcu3 hch3))
    all_goals
      (obtain ⟨D1, D2, D3⟩ := tab_done HR2.out HH2.out HCH3.out HC3.out HFN.out.2.2 hlt hHV1 (Nat.lt_succ_self _)
       have E1 := Lib.hid D1; have E2 := Lib.hid D2; have E3 := Lib.hid D3
       clear D1 D2 D3 k2 z2' kp hzO a1 a2 a3 a4 a5 hb4
       have hbt := SmallB.between (show SmallB k n s t from (by have := HS.out; unfold SmallD at this; unfold SmallB; refine ⟨by omega, by omega, by omega, by omega⟩))
       have HOW := Lib.hid ((HFN.out.1).drawn.owns hbt.1 hbt.2.1 hbt.2.2.1 hbt.2.2.2)
       have HCX := Lib.hid (E2.out); have HHX := Lib.hid (E3.out)
       have HCOX := Lib.hid (show (Vl.mk k n s t (l ++ [.mk k' n' s' t' l' cl' rs']) cl rs).cost ≤ 121000 from (by have h1 := HCO.out; have h2 := HCO3.out; rw [Vl.cost_mk] at *; simp only [List.length_append, List.length_singleton, sumN_app, sumN_single]; rw [Vl.cost_mk]; omega))
       have hRx := E1.out
       have hVx := HFN.out.2.1
       have rc0 := hRx.cell (j := 0) rfl
       have y0 := hRx.free 0
       have rc1 := hRx.cell (j := 1) rfl
       have y1 := hRx.free 1
       have rc2 := hRx.cell (j := 2) rfl
       have y2 := hRx.free 2
       have rc3 := hRx.cell (j := 3) rfl
       have y3 := hRx.free 3
       have rc4 := hRx.cell (j := 4) rfl
       have y4 := hRx.free 4
       have rc5 := hRx.cell (j := 5) rfl
       have y5 := hRx.free 5
       have rc6 := hRx.cell (j := 6) rfl
       have y6 := hRx.free 6
       have wz := hRx.lt
       have zz0 := hVx.cell (j := 0) rfl
       have zf0 := hVx.free 0
       have zz1 := hVx.cell (j := 1) rfl
       have zf1 := hVx.free 1
       have zz2 := hVx.cell (j := 2) rfl
       have zf2 := hVx.free 2
       have zz3 := hVx.cell (j := 3) rfl
       have zf3 := hVx.free 3
       have zz4 := hVx.cell (j := 4) rfl
       have zf4 := hVx.free 4
       have zz5 := hVx.cell (j := 5) rfl
       have zf5 := hVx.free 5
       have zz6 := hVx.cell (j := 6) rfl
       have zf6 := hVx.free 6
       have wv := hVx.lt
       clear hRx hVx hbt HR2 HV2 HT2 HC2 HH2 HS HCO
       go_wp2_with fail
       exact bodyPost_ret (v := .agg #[.int .i64 k, .int .i64 n, .int .i64 s, .string t, .slice (some ⟨gg, 0, none⟩) (l.length + 1) cap, .slice A5 cl.length c5, .slice A6 rs.length c6]) (by simp [results, Try.results124, go_sem, rc0, rc1, rc2, rc3, rc4, rc5, rc6]) rfl (fill_end rfl HOW.out HCX.out HHX.out hlt HCOX.out [.int .i64 k, .int .i64 n, .int .i64 s, .string t, .slice (some ⟨gg, 0, none⟩) (l.length + 1) cap, .slice A5 cl.length c5, .slice A6 rs.length c6]))
  · have k6 := HV2.out.cell (j := 6) rfl
    have hzO := HV2.out.lt
    have hszO : W.heap.size + 1 ≤ w2.heap.size := by omega
    have hb4 := HB4.out
    obtain ⟨j0, hj, hy0, hy1, hy2⟩ := info_parts info_row
    have hjn : (rs.length + 1) * 48 ≤ 140737488355328 := by omega
    have hjm : rs.length + 1 ≤ maxLen := by unfold maxLen; omega
    have hl2 : Later w2 ((w2.alloc (.cells #[.int .i64 1] 3)).alloc (.cells #[.int .i64 2, .int .i64 1, .int .i64 1, .int .i64 1] 101)) := ((Later.rfl' _).alloc _).alloc _
    obtain ⟨b2, ys, a1, a2, a3, a4, a5⟩ := trio_rows (p := 6) 79 HT2.out HV2.out (hl2.chg (onlyB g)) (fun b h => by unfold onlyB at h; omega) hszO (fresh_row w2)
    simp only [World.size_alloc] at a4 a5
    have A3 := Lib.hid a3; have A4 := Lib.hid a4; have A5 := Lib.hid a5; have HL2 := Lib.hid hl2
    clear a3 a4 a5 b2 hl2
    go_wp2_with (at_builtin; refine wpList_append_lies _ rfl (.tmp 37) (.tmp 43) 26 rfl 0 79 j0 (.agg #[.slice none 0 0, .slice none 0 0]) 2 48 Try.underlying26 hj hy0 hy1 hy2 rfl (by decide) _ rs.length ys rfl a1 ⟨w2.heap.size + 1 + 1, 0, none⟩ 1 1 [.slice (some ⟨w2.heap.size, 0, none⟩) 1 1, .slice (some ⟨w2.heap.size + 1, 0, none⟩) 2 2] rfl a2 A4.out A3.out (by omega) hjm hjn (Nat.zero_le _) (w2.heap.size + 1 + 1 + 1) (by simp) ?_)
    intro gg cap w4 ho4 hg4 hat4 hlt4
    obtain ⟨B4, HFN⟩ := A5.out gg cap w4 ho4 hg4 hat4
    have m4 := B4.cell (j := 6) rfl
    have mf := B4.free 6
    obtain ⟨D1, D2, D3⟩ := tab_done HR2.out HH2.out (HL2.out.chg (onlyB g)) (HC2.out.later HL2.out) HFN.out.2.2 hlt hHV1 (Nat.lt_succ_self _)
    have E1 := Lib.hid D1; have E2 := Lib.hid D2; have E3 := Lib.hid D3
    clear D1 D2 D3 ho4 hg4 hat4 B4 a1 a2 A3 A4 A5 k6 hzO hb4
    have hbt := SmallB.between (show SmallB k n s t from (by have := HS.out; unfold SmallD at this; unfold SmallB; refine ⟨by omega, by omega, by omega, by omega⟩))
    have HOW := Lib.hid ((HFN.out.1).drawn.owns hbt.1 hbt.2.1 hbt.2.2.1 hbt.2.2.2)
    have HCX := Lib.hid (E2.out); have HHX := Lib.hid (E3.out)
    have HCOX := Lib.hid (show (Vl.mk k n s t l cl (rs ++ [⟨[1], [(2, 1), (1, 1)]⟩])).cost ≤ 121000 from (by have h1 := HCO.out; rw [Vl.cost_mk] at *; simp only [List.length_append, List.length_singleton, sumN_app, sumN_single]; rw [rw_cost]; simp only [List.length_cons, List.length_nil]; omega))
    have hRx := E1.out
    have hVx := HFN.out.2.1
    have rc0 := hRx.cell (j := 0) rfl
    have y0 := hRx.free 0
    have rc1 := hRx.cell (j := 1) rfl
    have y1 := hRx.free 1
    have rc2 := hRx.cell (j := 2) rfl
    have y2 := hRx.free 2
    have rc3 := hRx.cell (j := 3) rfl
    have y3 := hRx.free 3
    have rc4 := hRx.cell (j := 4) rfl
    have y4 := hRx.free 4
    have rc5 := hRx.cell (j := 5) rfl
    have y5 := hRx.free 5
    have rc6 := hRx.cell (j := 6) rfl
    have y6 := hRx.free 6
    have wz := hRx.lt
    have zz0 := hVx.cell (j := 0) rfl
    have zf0 := hVx.free 0
    have zz1 := hVx.cell (j := 1) rfl
    have zf1 := hVx.free 1
    have zz2 := hVx.cell (j := 2) rfl
    have zf2 := hVx.free 2
    have zz3 := hVx.cell (j := 3) rfl
    have zf3 := hVx.free 3
    have zz4 := hVx.cell (j := 4) rfl
    have zf4 := hVx.free 4
    have zz5 := hVx.cell (j := 5) rfl
    have zf5 := hVx.free 5
    have zz6 := hVx.cell (j := 6) rfl
    have zf6 := hVx.free 6
    have wv := hVx.lt
    clear hRx hVx hbt HR2 HV2 HT2 HC2 HH2 HS HCO HL2
    go_wp2_with fail
    exact bodyPost_ret (v := .agg #[.int .i64 k, .int .i64 n, .int .i64 s, .string t, .slice A4 l.length c4, .slice A5 cl.length c5, .slice (some ⟨gg, 0, none⟩) (rs.length + 1) cap]) (by simp [results, Try.results124, go_sem, rc0, rc1, rc2, rc3, rc4, rc5, rc6]) rfl (fill_end rfl HOW.out HCX.out HHX.out hlt HCOX.out [.int .i64 k, .int .i64 n, .int .i64 s, .string t, .slice A4 l.length c4, .slice A5 cl.length c5, .slice (some ⟨gg, 0, none⟩) (rs.length + 1) cap])
  · have kp := HV2.out.cell (j := 5) rfl
    have hzO := HV2.out.lt
    have hszO : W.heap.size + 1 ≤ w2.heap.size := by omega
    have hb4 := HB4.out
    obtain ⟨i0, hi, hz0, hz1, hz2⟩ := info_parts info_string
    have hjn : (cl.length + 1) * 16 ≤ 140737488355328 := by omega
    have hjm : cl.length + 1 ≤ maxLen := by unfold maxLen; omega
    go_wp2_with fail
    go_region_law (first
      | (refine step_append_lies _ rfl (.tmp 49) (.tmp 52) 25 rfl 0 9 i0 (.string ByteArray.empty) 1 16 Try.underlying25 hi hz0 hz1 hz2 rfl (by decide) (.slice A5 cl.length c5) cl.length ys (by simp [Act.eval, Act.put]) a1 ⟨w3.heap.size, 0, none⟩ 1 1 [.string x] (by simp [Act.eval, Act.put]) a2 a4.out a3.out (by omega) hjm hjn (Nat.zero_le _) (w3.heap.size + 1) (by simp) ?_; intro gg cap w4 ho4 hg4 hat4 hlt4; obtain ⟨B4, HFN⟩ := a5.out gg cap w4 ho4 hg4 hat4; have m4 := B4.cell (j := 5) rfl; have mf := B4.free 5; clear ho4 hg4 hat4 B4)
      | (go_simp; go_at_call 167; refine (drawAny g _ (HC2.out.later (Later.rfl' _).drew)).mono ?_; rintro e w3 ⟨⟨x, hx, rfl⟩, hcu3, hch3⟩; have HX := Lib.hid hx; have HC3 := Lib.hid hcu3; have HCH3 := Lib.hid ((((Later.rfl' w2).drew).chg (onlyB g)).trans hch3); have HALL := Lib.hid (trio_cols (p := 5) 9 HT2.out HV2.out HCH3.out (fun b h => by unfold onlyB at h; omega) hszO (owns_leaves (S := anyB) (.cons (.str x (by have := HX.out; omega)) .nil) (by simp [encS]))); obtain ⟨b2, ys, a1, a2, a3, a4, a5⟩ := HALL.out; have k2 := b2.cell (j := 5) rfl; have z2' := b2.lt; replace a3 := Lib.hid a3; replace a4 := Lib.hid a4; replace a5 := Lib.hid a5; clear b2 HALL hcu3 hch3))
    all_goals
      (obtain ⟨D1, D2, D3⟩ := tab_done HR2.out HH2.out HCH3.out HC3.out HFN.out.2.2 hlt hHV1 (Nat.lt_succ_self _)
       have E1 := Lib.hid D1; have E2 := Lib.hid D2; have E3 := Lib.hid D3
       clear D1 D2 D3 k2 z2' kp hzO a1 a2 a3 a4 a5 hb4
       have hbt := SmallB.between (show SmallB k n s t from (by have := HS.out; unfold SmallD at this; unfold SmallB; refine ⟨by omega, by omega, by omega, by omega⟩))
       have HOW := Lib.hid ((HFN.out.1).drawn.owns hbt.1 hbt.2.1 hbt.2.2.1 hbt.2.2.2)
       have HCX := Lib.hid (E2.out); have HHX := Lib.hid (E3.out)
       have HCOX := Lib.hid (show (Vl.mk k n s t l (cl ++ [x]) rs).cost ≤ 121000 from (by have h1 := HCO.out; have h2 := HX.out; rw [Vl.cost_mk] at *; rw [costS_snoc]; omega))
       have hRx := E1.out
       have hVx := HFN.out.2.1
       have rc0 := hRx.cell (j := 0) rfl
       have y0 := hRx.free 0
       have rc1 := hRx.cell (j := 1) rfl
       have y1 := hRx.free 1
       have rc2 := hRx.cell (j := 2) rfl
       have y2 := hRx.free 2
       have rc3 := hRx.cell (j := 3) rfl
       have y3 := hRx.free 3
       have rc4 := hRx.cell (j := 4) rfl
       have y4 := hRx.free 4
       have rc5 := hRx.cell (j := 5) rfl
       have y5 := hRx.free 5
       have rc6 := hRx.cell (j := 6) rfl
       have y6 := hRx.free 6
       have wz := hRx.lt
       have zz0 := hVx.cell (j := 0) rfl
       have zf0 := hVx.free 0
       have zz1 := hVx.cell (j := 1) rfl
       have zf1 := hVx.free 1
       have zz2 := hVx.cell (j := 2) rfl
       have zf2 := hVx.free 2
       have zz3 := hVx.cell (j := 3) rfl
       have zf3 := hVx.free 3
       have zz4 := hVx.cell (j := 4) rfl
       have zf4 := hVx.free 4
       have zz5 := hVx.cell (j := 5) rfl
       have zf5 := hVx.free 5
       have zz6 := hVx.cell (j := 6) rfl
       have zf6 := hVx.free 6
       have wv := hVx.lt
       clear hRx hVx hbt HR2 HV2 HT2 HC2 HH2 HS HCO
       go_wp2_with fail
       exact bodyPost_ret (v := .agg #[.int .i64 k, .int .i64 n, .int .i64 s, .string t, .slice A4 l.length c4, .slice (some ⟨gg, 0, none⟩) (cl.length + 1) cap, .slice A6 rs.length c6]) (by simp [results, Try.results124, go_sem, rc0, rc1, rc2, rc3, rc4, rc5, rc6]) rfl (fill_end rfl HOW.out HCX.out HHX.out hlt HCOX.out [.int .i64 k, .int .i64 n, .int .i64 s, .string t, .slice A4 l.length c4, .slice (some ⟨gg, 0, none⟩) (cl.length + 1) cap, .slice A6 rs.length c6]))
  · have hput := put_bent (p := 2) (u := .int .i64 7) HR2.out HT2.out HC2.out HH2.out hHV1 hlt
    have kp := HV2.out.cell (j := 2) rfl
    have fp := HV2.out.free 2
    have hbt := SmallB.between (show SmallB k n 7 t from (by have := HS.out; unfold SmallD at this; unfold SmallB; refine ⟨by omega, by omega, by omega, by omega⟩))
    have HOW := Lib.hid ((hput.2.1).drawn.owns hbt.1 hbt.2.1 hbt.2.2.1 hbt.2.2.2)
    have HCX := Lib.hid (hput.2.2.1); have HHX := Lib.hid (hput.2.2.2)
    have HCOX := Lib.hid (show (Vl.mk k n 7 t l cl rs).cost ≤ 121000 from (by have := HCO.out; rw [Vl.cost_mk] at *; omega))
    have hRx := hput.1
    have hVx := HV2.out.set 2 (.int .i64 7)
    have rc0 := hRx.cell (j := 0) rfl
    have y0 := hRx.free 0
    have rc1 := hRx.cell (j := 1) rfl
    have y1 := hRx.free 1
    have rc2 := hRx.cell (j := 2) rfl
    have y2 := hRx.free 2
    have rc3 := hRx.cell (j := 3) rfl
    have y3 := hRx.free 3
    have rc4 := hRx.cell (j := 4) rfl
    have y4 := hRx.free 4
    have rc5 := hRx.cell (j := 5) rfl
    have y5 := hRx.free 5
    have rc6 := hRx.cell (j := 6) rfl
    have y6 := hRx.free 6
    have wz := hRx.lt
    have zz0 := hVx.cell (j := 0) rfl
    have zf0 := hVx.free 0
    have zz1 := hVx.cell (j := 1) rfl
    have zf1 := hVx.free 1
    have zz2 := hVx.cell (j := 2) rfl
    have zf2 := hVx.free 2
    have zz3 := hVx.cell (j := 3) rfl
    have zf3 := hVx.free 3
    have zz4 := hVx.cell (j := 4) rfl
    have zf4 := hVx.free 4
    have zz5 := hVx.cell (j := 5) rfl
    have zf5 := hVx.free 5
    have zz6 := hVx.cell (j := 6) rfl
    have zf6 := hVx.free 6
    have wv := hVx.lt
    clear hRx hVx hbt hput HR2 HV2 HT2 HC2 HH2 HS HCO
    go_wp2_with fail
    exact bodyPost_ret (v := .agg #[.int .i64 k, .int .i64 n, .int .i64 7, .string t, .slice A4 l.length c4, .slice A5 cl.length c5, .slice A6 rs.length c6]) (by simp [results, Try.results124, go_sem, rc0, rc1, rc2, rc3, rc4, rc5, rc6]) rfl (fill_end rfl HOW.out HCX.out HHX.out hlt HCOX.out [.int .i64 k, .int .i64 n, .int .i64 7, .string t, .slice A4 l.length c4, .slice A5 cl.length c5, .slice A6 rs.length c6])
  · have e0 : (((m : Nat) : Int) == 0) = false := by rw [beq_eq_false_iff_ne]; omega
    have e1 : (((m : Nat) : Int) == 1) = false := by rw [beq_eq_false_iff_ne]; omega
    have e2 : (((m : Nat) : Int) == 2) = false := by rw [beq_eq_false_iff_ne]; omega
    have e3 : (((m : Nat) : Int) == 3) = false := by rw [beq_eq_false_iff_ne]; omega
    have e4 : (((m : Nat) : Int) == 4) = false := by rw [beq_eq_false_iff_ne]; omega
    have e5 : (((m : Nat) : Int) == 5) = false := by rw [beq_eq_false_iff_ne]; omega
    have e6 : (((m : Nat) : Int) == 6) = false := by rw [beq_eq_false_iff_ne]; omega
    clear hm7
    have hbt := SmallB.between (show SmallB k n s t from (by have := HS.out; unfold SmallD at this; unfold SmallB; refine ⟨by omega, by omega, by omega, by omega⟩))
    have HOW := Lib.hid ((HT2.out).drawn.owns hbt.1 hbt.2.1 hbt.2.2.1 hbt.2.2.2)
    have HCX := Lib.hid (HC2.out); have HHX := Lib.hid (HH2.out)
    have HCOX := Lib.hid (show (Vl.mk k n s t l cl rs).cost ≤ 121000 from (by have := HCO.out; rw [Vl.cost_mk] at *; omega))
    have hRx := HR2.out
    have hVx := HV2.out
    have rc0 := hRx.cell (j := 0) rfl
    have y0 := hRx.free 0
    have rc1 := hRx.cell (j := 1) rfl
    have y1 := hRx.free 1
    have rc2 := hRx.cell (j := 2) rfl
    have y2 := hRx.free 2
    have rc3 := hRx.cell (j := 3) rfl
    have y3 := hRx.free 3
    have rc4 := hRx.cell (j := 4) rfl
    have y4 := hRx.free 4
    have rc5 := hRx.cell (j := 5) rfl
    have y5 := hRx.free 5
    have rc6 := hRx.cell (j := 6) rfl
    have y6 := hRx.free 6
    have wz := hRx.lt
    have zz0 := hVx.cell (j := 0) rfl
    have zf0 := hVx.free 0
    have zz1 := hVx.cell (j := 1) rfl
    have zf1 := hVx.free 1
    have zz2 := hVx.cell (j := 2) rfl
    have zf2 := hVx.free 2
    have zz3 := hVx.cell (j := 3) rfl
    have zf3 := hVx.free 3
    have zz4 := hVx.cell (j := 4) rfl
    have zf4 := hVx.free 4
    have zz5 := hVx.cell (j := 5) rfl
    have zf5 := hVx.free 5
    have zz6 := hVx.cell (j := 6) rfl
    have zf6 := hVx.free 6
    have wv := hVx.lt
    clear hRx hVx hbt HR2 HV2 HT2 HC2 HH2 HS HCO
    go_wp2_with fail
    exact bodyPost_ret (v := .agg #[.int .i64 k, .int .i64 n, .int .i64 s, .string t, .slice A4 l.length c4, .slice A5 cl.length c5, .slice A6 rs.length c6]) (by simp [results, Try.results124, go_sem, rc0, rc1, rc2, rc3, rc4, rc5, rc6]) rfl (fill_end rfl HOW.out HCX.out HHX.out hlt HCOX.out [.int .i64 k, .int .i64 n, .int .i64 s, .string t, .slice A4 l.length c4, .slice A5 cl.length c5, .slice A6 rs.length c6])

end Go.Proofs.Ytghemlokpfipoaa
