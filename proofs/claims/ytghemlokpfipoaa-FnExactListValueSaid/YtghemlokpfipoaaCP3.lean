/-
  Copies of values: ListValue of the specification; copyValues.
-/
import Derived.Test.YtghemlokpfipoaaCP2
namespace Go.Proofs.Ytghemlokpfipoaa
open Go.ChangeShapes Go.WideShapes Go.ChangeAt Go.RowKit
set_option linter.unusedVariables false
set_option linter.unusedSimpArgs false
set_option maxRecDepth 100000

theorem copy_endR {W wr : World} {g lo : Nat} {d : Vl} {k n s : Int} {t : ByteArray} {A1 A2 A3 : Option Addr} {n1 c1 n2 c2 n3 c3 : Nat} {r : Ending}
    (hr : r = .returned (.agg #[.int .i64 k, .int .i64 n, .int .i64 s, .string t, .slice A1 n1 c1, .slice A2 n2 c2, .slice A3 n3 c3]))
    (ho : Owns wr (fun b => lo ≤ b ∧ b < wr.heap.size) (encV d) [.int .i64 k, .int .i64 n, .int .i64 s, .string t, .slice A1 n1 c1, .slice A2 n2 c2, .slice A3 n3 c3])
    (hl : Later W wr) (hg : W.heap.size ≤ g) (hg2 : g < lo) (a0 a1 a2 a3 a4 a5 a6 : Value) :
    CopyV W (((((((wr.setCell ⟨g, 0, none⟩ a0).setCell ⟨g, 1, none⟩ a1).setCell ⟨g, 2, none⟩ a2).setCell ⟨g, 3, none⟩ a3).setCell ⟨g, 4, none⟩ a4).setCell ⟨g, 5, none⟩ a5).setCell ⟨g, 6, none⟩ a6) d r ∧
      Later W (((((((wr.setCell ⟨g, 0, none⟩ a0).setCell ⟨g, 1, none⟩ a1).setCell ⟨g, 2, none⟩ a2).setCell ⟨g, 3, none⟩ a3).setCell ⟨g, 4, none⟩ a4).setCell ⟨g, 5, none⟩ a5).setCell ⟨g, 6, none⟩ a6) := by
  rw [← chain7]
  have c := chg_setFrom (g := g) [a0, a1, a2, a3, a4, a5, a6] wr 0
  exact ⟨⟨_, _, _, _, _, _, _, _, _, _, _, _, _, hr, (ho.chg c fun b h1 h2 => by omega).more fun b hb => ⟨by omega, by rw [size_setFrom]; exact hb.2⟩⟩, later_setFrom hg _ _ _ hl⟩
theorem later_appendN {w wr w1 : World} {v : Value} {e s n : Nat} {xs : List Value} (hb : Later w wr) (hown : wr.ownsRow w.heap.size e s v n xs) (hg : wr.grownBy w1 v.ownBlock) : Later w w1 :=
  Below.grown hb hg (hb.size) (fun k hk => (hown.lt k hk).1)
/-- Behind a push: the result's variable, and all that lay. -/
theorem list_done {W wr w2 wf : World} {g HO lo : Nat} {zc : List Value} (hR : Box wr g zc) (hL : Later W wr) (h2 : Later wr w2) (c : Chg (fun b => b = HO ∨ lo ≤ b) w2 wf) (hg : g < lo) (hgO : g ≠ HO) (hlo : W.heap.size ≤ lo) (hHO : W.heap.size ≤ HO) :
    Box wf g zc ∧ Later W wf ∧ wr.heap.size ≤ wf.heap.size :=
  ⟨(hR.later h2).chg c fun h => by omega, Chg.later (hL.trans h2) c fun k hk => by omega, Nat.le_trans h2.size c.size⟩

set_option maxHeartbeats 8000000 in
theorem specListValue (l : List Vl) (W : World) (S : Nat → Prop) (v : Value) (h : SlAt W S 7 encV l v) (hn : l.length + sumN Vl.cost l ≤ 1048576) : Calls Try.prog 35 #[v] W fun r w' => CopyV W w' (listD l) r ∧ Later W w' := by
  obtain ⟨A, c, rfl, hlc, hcm⟩ := sl_parts h
  have HE := Lib.hid h; clear h
  obtain ⟨i0, hi, hz0, hz1, hz2⟩ := info_parts info_value
  go_enter Try.func35, Try.ntmps35
  go_wp2_with fail
  have bR : Box ((W.alloc (.cells #[.int .i64 0, .int .i64 0, .int .i64 0, .string ⟨#[]⟩, .slice none 0 0, .slice none 0 0, .slice none 0 0] 28)).alloc (.cells #[.int .i64 3, .int .i64 0, .int .i64 0, .string ⟨#[]⟩, .slice none 0 0, .slice none 0 0, .slice none 0 0] 28)) W.heap.size [.int .i64 0, .int .i64 0, .int .i64 0, .string ⟨#[]⟩, .slice none 0 0, .slice none 0 0, .slice none 0 0] := (box_alloc W #[.int .i64 0, .int .i64 0, .int .i64 0, .string ⟨#[]⟩, .slice none 0 0, .slice none 0 0, .slice none 0 0] 28).later ((Later.rfl' _).alloc _)
  have bO : Box ((W.alloc (.cells #[.int .i64 0, .int .i64 0, .int .i64 0, .string ⟨#[]⟩, .slice none 0 0, .slice none 0 0, .slice none 0 0] 28)).alloc (.cells #[.int .i64 3, .int .i64 0, .int .i64 0, .string ⟨#[]⟩, .slice none 0 0, .slice none 0 0, .slice none 0 0] 28)) (W.heap.size + 1) [.int .i64 3, .int .i64 0, .int .i64 0, .string ⟨#[]⟩, .slice none 0 0, .slice none 0 0, .slice none 0 0] := by
    have h := box_alloc (W.alloc (.cells #[.int .i64 0, .int .i64 0, .int .i64 0, .string ⟨#[]⟩, .slice none 0 0, .slice none 0 0, .slice none 0 0] 28)) #[.int .i64 3, .int .i64 0, .int .i64 0, .string ⟨#[]⟩, .slice none 0 0, .slice none 0 0, .slice none 0 0] 28
    rw [World.size_alloc] at h
    exact h
  have HR0 := Lib.hid bR; have HO0 := Lib.hid bO
  clear bR bO
  go_loopw [4] (fun i wr => ∃ (x1 : List Vl) (lv : Value), i = .int .i64 (x1.length : Int) ∧ l.take x1.length = x1 ∧ x1.length ≤ l.length ∧ Box wr W.heap.size [.int .i64 0, .int .i64 0, .int .i64 0, .string ⟨#[]⟩, .slice none 0 0, .slice none 0 0, .slice none 0 0] ∧ Box wr (W.heap.size + 1) [.int .i64 3, .int .i64 0, .int .i64 0, .string ⟨#[]⟩, lv, .slice none 0 0, .slice none 0 0] ∧ Trio (W.heap.size + 2) (W.heap.size + 1) wr x1 [] [] lv (.slice none 0 0) (.slice none 0 0) ∧ Later W wr ∧ W.heap.size + 2 ≤ wr.heap.size) (fun i _ => l.length - (intOf i).toNat)
  case atStart => exact ⟨[], .slice none 0 0, rfl, rfl, Nat.zero_le _, HR0.out, HO0.out, Trio.nils _ _ _, ((Later.rfl' _).alloc _).alloc _, by simp⟩
  case round =>
    obtain ⟨x1, lv, rfl, htk, hle, hR, hO, hT, hL, hszO⟩ := hrel
    clear HR0 HO0
    by_cases hlt : x1.length < l.length
    · obtain ⟨b, off, y0, y1, y2, y3, B1, m1, e1, B2, m2, e2, B3, m3, e3, rfl, hb, _, hx, f0, f1, f2, f3, f4, f5, f6⟩ := (HE.out.later hL).valAt hlt
      have hcx := sumN_mem Vl.cost (List.getElem_mem hlt)
      have C := fun W' (hW' : Later wr W') => specCopy l[x1.length] (by omega) W' S _ (hx.later hW')
      obtain ⟨D, hD⟩ : ∃ D, D = l[x1.length] := ⟨_, rfl⟩
      rw [← hD] at C
      have HD := Lib.hid hD; have HC := Lib.hid C
      have HR := Lib.hid hR; have HBO := Lib.hid hO; have HT := Lib.hid hT; have HL := Lib.hid hL
      have hkO := hO.cell (j := 4) rfl
      have hzO := hO.lt
      have hjn : (x1.length + 1) * 112 ≤ 140737488355328 := by omega
      have hjm : x1.length + 1 ≤ maxLen := by unfold maxLen; omega
      have hki : (x1.length : Int) < (l.length : Int) := by omega
      clear C hD hx hcx hR hO hT hL
      go_wp2_with fail
      go_region_law (first
        | (refine step_append_lies _ rfl (.tmp 13) (.tmp 19) 24 rfl 0 28 i0 (.agg #[.int .i64 0, .int .i64 0, .int .i64 0, .string ByteArray.empty, .slice none 0 0, .slice none 0 0, .slice none 0 0]) 7 112 Try.underlying24 hi hz0 hz1 hz2 rfl (by decide) lv x1.length xs (by simp [Act.eval, Act.put]) a1 ⟨w2.heap.size, 0, none⟩ 1 1 [.int .i64 z0, .int .i64 z1, .int .i64 z2, .string z3, .slice E1 u1 v1, .slice E2 u2 v2, .slice E3 u3 v3] (by simp [Act.eval, Act.put]) a2 a4.out a3.out (by omega) hjm hjn (Nat.zero_le _) (w2.heap.size + 1) (by simp) ?_; intro gg cap w4 ho4 hg4 hat4 hlt4; obtain ⟨B4, HFN⟩ := a5.out gg cap w4 ho4 hg4 hat4; have m4 := B4.cell (j := 4) rfl; have mf := B4.free 4; clear ho4 hg4 hat4 B4)
        | (go_simp; go_at_call 100; refine (HC.out _ (Later.rfl' _).drew).mono ?_; rintro e w2 ⟨⟨z0, z1, z2, z3, E1, u1, v1, E2, u2, v2, E3, u3, v3, rfl, ho⟩, hl2⟩; have HALL := Lib.hid (trio_list (p := 4) 28 HT.out HBO.out (((Later.rfl' wr).drew.trans hl2).chg (fun _ => False)) (fun b h => False.elim h) hszO ho); have HL2 := Lib.hid ((Later.rfl' wr).drew.trans hl2); obtain ⟨b2, xs, a1, a2, a3, a4, a5⟩ := HALL.out; have k2 := b2.cell (j := 4) rfl; have z2' := b2.lt; replace a3 := Lib.hid a3; replace a4 := Lib.hid a4; replace a5 := Lib.hid a5; clear b2 HALL hl2 ho))
      all_goals
        (obtain ⟨D1, D2, D3⟩ := list_done HR.out HL.out HL2.out HFN.out.2.2 (by omega) (by omega) (by omega) (by omega)
         have E1' := Lib.hid D1; have E2' := Lib.hid D2
         clear D1 D2 k2 z2' hkO hzO a1 a2 a3 a4 a5 m4 mf f0 f1 f2 f3 f4 f5 f6
         go_wp2_with fail
         go_roundw
         case rel => exact ⟨x1 ++ [D], _, by rw [List.length_append]; go_num, take_snoc htk hlt HD.out, by rw [List.length_append]; simp; omega, E1'.out, HFN.out.2.1, HFN.out.1, E2'.out, by omega⟩
         case measure => simp [intOf]; omega)
    · obtain rfl := take_full htk hle hlt
      obtain ⟨A4, c4, A5, c5, A6, c6, rfl, _, _⟩ := hT.shape
      have HOW : Hid (Owns wr (fun b => W.heap.size + 2 ≤ b ∧ b < wr.heap.size) (encV (listD x1)) [.int .i64 3, .int .i64 0, .int .i64 0, .string ⟨#[]⟩, .slice A4 x1.length c4, .slice none 0 0, .slice none 0 0]) := hT.drawn.owns (by unfold Between64; omega) (by unfold Between64; omega) (by unfold Between64; omega) (by decide)
      have HL := Lib.hid hL
      have rc0 := hR.cell (j := 0) rfl
      have y0 := hR.free 0
      have z0 := hO.cell (j := 0) rfl
      have rc1 := hR.cell (j := 1) rfl
      have y1 := hR.free 1
      have z1 := hO.cell (j := 1) rfl
      have rc2 := hR.cell (j := 2) rfl
      have y2 := hR.free 2
      have z2 := hO.cell (j := 2) rfl
      have rc3 := hR.cell (j := 3) rfl
      have y3 := hR.free 3
      have z3 := hO.cell (j := 3) rfl
      have rc4 := hR.cell (j := 4) rfl
      have y4 := hR.free 4
      have z4 := hO.cell (j := 4) rfl
      have rc5 := hR.cell (j := 5) rfl
      have y5 := hR.free 5
      have z5 := hO.cell (j := 5) rfl
      have rc6 := hR.cell (j := 6) rfl
      have y6 := hR.free 6
      have z6 := hO.cell (j := 6) rfl
      have hzs := hO.lt
      have hws := hR.lt
      clear hR hO hT hL htk hle HE
      go_wp2_with fail
      exact bodyPost_ret (v := .agg #[.int .i64 3, .int .i64 0, .int .i64 0, .string ⟨#[]⟩, .slice A4 x1.length c4, .slice none 0 0, .slice none 0 0]) (by simp [results, Try.results35, go_sem, rc0, rc1, rc2, rc3, rc4, rc5, rc6]) rfl (copy_endR rfl HOW.out HL.out (Nat.le_refl _) (by omega) _ _ _ _ _ _ _)

/-- What copyValues returns. -/
def PushS (W w' : World) (l : List Vl) (r : Ending) : Prop := ∃ v, r = .returned v ∧ Pushed W.heap.size w' 28 7 encV l v
set_option maxHeartbeats 8000000 in
theorem implCopyS (l : List Vl) (hq : ∀ x, x ∈ l → CopyQ 84 x) (W : World) (S : Nat → Prop) (v : Value) (h : SlAt W S 7 encV l v) (hn : l.length + sumN Vl.cost l ≤ 1048576) : Calls Try.prog 89 #[v] W fun r w' => PushS W w' l r ∧ Later W w' := by
  obtain ⟨A, c, rfl, hlc, hcm⟩ := sl_parts h
  have HE := Lib.hid h; have HQ := Lib.hid hq; clear h hq
  obtain ⟨i0, hi, hz0, hz1, hz2⟩ := info_parts info_value
  go_enter Try.func89, Try.ntmps89
  go_wp2_with fail
  go_loopw [3, 9] (fun o i wr => ∃ x1 : List Vl, i = .int .i64 (x1.length : Int) ∧ l.take x1.length = x1 ∧ x1.length ≤ l.length ∧ Pushed W.heap.size wr 28 7 encV x1 o ∧ Later W wr) (fun _ i _ => l.length - (intOf i).toNat)
  case atStart => exact ⟨[], rfl, rfl, Nat.zero_le _, Pushed.row0 encV (World.ownsRow_made W #[] 0 (Nat.le_refl _) (Nat.zero_le _) rfl), (Later.rfl' _).alloc _⟩
  case round =>
    obtain ⟨x1, rfl, htk, hle, hP, hL⟩ := hrel
    by_cases hlt : x1.length < l.length
    · obtain ⟨b, off, y0, y1, y2, y3, B1, m1, e1, B2, m2, e2, B3, m3, e3, rfl, hb, _, hx, f0, f1, f2, f3, f4, f5, f6⟩ := (HE.out.later hL).valAt hlt
      have hcx := sumN_mem Vl.cost (List.getElem_mem hlt)
      have C := fun W' (hW' : Later wr W') => HQ.out l[x1.length] (List.getElem_mem hlt) (by omega) W' S _ (hx.later hW')
      obtain ⟨D, hD⟩ : ∃ D, D = l[x1.length] := ⟨_, rfl⟩
      rw [← hD] at C
      have HD := Lib.hid hD; have HC := Lib.hid C; have HP := Lib.hid hP; have HL := Lib.hid hL
      have hjn : (x1.length + 1) * 112 ≤ 140737488355328 := by omega
      have hjm : x1.length + 1 ≤ maxLen := by unfold maxLen; omega
      have hki : (x1.length : Int) < (l.length : Int) := by omega
      have hlo := hL.size
      clear C hD hx hcx hP hL
      go_wp2_with fail
      refine (HC.out _ ((Later.rfl' _).alloc _)).mono ?_; rintro e w2 ⟨⟨z0, z1, z2, z3, E1, u1, v1, E2, u2, v2, E3, u3, v3, rfl, ho⟩, hl2⟩
      have hl3 := ((Later.rfl' wr).alloc (.cells #[.int .i64 y0, .int .i64 y1, .int .i64 y2, .string y3, .slice B1 m1 e1, .slice B2 m2 e2, .slice B3 m3 e3] 28)).trans hl2
      have ho' := ho.more (S' := fun b => wr.heap.size ≤ b ∧ b < w2.heap.size) fun b hb => ⟨by have := hb.1; simp at this; omega, hb.2⟩
      obtain ⟨xs, a1, a2, a3, a4, a5, a6⟩ := HP.out.ask encV_len (hl3.chg (fun _ => False)) (fun _ _ h => h) hlo ho' 28
      have A3 := Lib.hid a3; have A4 := Lib.hid a4; have A6 := Lib.hid a6; have HL3 := Lib.hid (HL.out.trans hl3); have HROW := Lib.hid a1
      clear a3 a4 a6 hl3 ho ho' hl2 f0 f1 f2 f3 f4 f5 f6
      go_wp2_with (at_builtin; refine wpList_append_lies _ rfl (.tmp 13) (.tmp 16) 24 rfl W.heap.size 28 i0 (.agg #[.int .i64 0, .int .i64 0, .int .i64 0, .string ByteArray.empty, .slice none 0 0, .slice none 0 0, .slice none 0 0]) 7 112 Try.underlying24 hi hz0 hz1 hz2 rfl (by decide) _ x1.length xs rfl a1 ⟨w2.heap.size, 0, none⟩ 1 1 [.int .i64 z0, .int .i64 z1, .int .i64 z2, .string z3, .slice E1 u1 v1, .slice E2 u2 v2, .slice E3 u3 v3] rfl a2 A4.out A3.out (by omega) hjm hjn a5 (w2.heap.size + 1) (by simp) ?_)
      intro gg cap w4 ho4 hg4 hat4 hlt4
      have HPN := Lib.hid (A6.out gg cap w4 ho4 hg4 hat4)
      have HLN := Lib.hid (later_appendN (HL3.out.alloc _) HROW.out hg4)
      clear ho4 hg4 hat4 a1 a2 a5 A3 A4 A6 HROW
      go_wp2_with fail
      go_roundw
      case rel => exact ⟨x1 ++ [D], by rw [List.length_append]; go_num, take_snoc htk hlt HD.out, by rw [List.length_append]; simp; omega, HPN.out, HLN.out⟩
      case measure => simp [intOf]; omega
    · obtain rfl := take_full htk hle hlt
      have HP := Lib.hid hP; have HL := Lib.hid hL
      clear hP hL
      go_wp2_with fail
      go_ret
      exact ⟨⟨_, rfl, HP.out⟩, HL.out⟩

end Go.Proofs.Ytghemlokpfipoaa
