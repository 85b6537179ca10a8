/-
  Copies of values: ListValue of the specification; copyValues. Copies of values: copyValue, ListValue of the program: the walks.
-/
import Derived.Test.YtghemlokpfipoaaYCP2
namespace Go.Proofs.Ytghemlokpfipoaa
open Go.ChangeShapes Go.WideShapes Go.ChangeAt Go.RowKit
set_option linter.unusedVariables false
set_option linter.unusedSimpArgs false
set_option maxRecDepth 100000

theorem copy_endR {W wr : World} {g lo : Nat} {d : Vl} {k n s : Int} {t : ByteArray} {A1 A2 A3 : Option Addr} {n1 c1 n2 c2 n3 c3 : Nat} {r : Ending}
    (hr : r = .returned (.agg #[.int .i64 k, .int .i64 n, .int .i64 s, .string t, .slice A1 n1 c1, .slice A2 n2 c2, .slice A3 n3 c3]))
    (ho : Owns wr (fun b => lo ≤ b ∧ b < wr.heap.size) (encV d) [.int .i64 k, .int .i64 n, .int .i64 s, .string t, .slice A1 n1 c1, .slice A2 n2 c2, .slice A3 n3 c3])
    (hl : Later W wr) (hg : W.heap.size ≤ g) (hg2 : g < lo) (a0 a1 a2 a3 a4 a5 a6 : Value) :
    CopyV W (((((((wr.setCell ⟨g, 0, none⟩ a0).setCell ⟨g, 1, none⟩ a1).setCell ⟨g, 2, none⟩ a2).setCell ⟨g, 3, none⟩ a3).setCell ⟨g, 4, none⟩ a4).setCell ⟨g, 5, none⟩ a5).setCell ⟨g, 6, none⟩ a6) d r ∧
      Later W (((((((wr.setCell ⟨g, 0, none⟩ a0).setCell ⟨g, 1, none⟩ a1).setCell ⟨g, 2, none⟩ a2).setCell ⟨g, 3, none⟩ a3).setCell ⟨g, 4, none⟩ a4).setCell ⟨g, 5, none⟩ a5).setCell ⟨g, 6, none⟩ a6) := by
  rw [← chain7]
  have c := chg_setFrom (g := g) [a0, a1, a2, a3, a4, a5, a6] wr 0
  exact ⟨⟨_, _, _, _, _, _, _, _, _, _, _, _, _, hr, (ho.chg c fun b h1 h2 => by omega).more fun b hb => ⟨by omega, by rw [size_setFrom]; exact hb.2⟩⟩, later_setFrom hg _ _ _ hl⟩
theorem later_appendN {w wr w1 : World} {v : Value} {e s n : Nat} {xs : List Value} (hb : Later w wr) (hown : wr.ownsRow w.heap.size e s v n xs) (hg : wr.grownBy w1 v.ownBlock) : Later w w1 :=
  Below.grown hb hg (hb.size) (fun k hk => (hown.lt k hk).1)
/-- Behind a push: the result's variable, and all that lay. -/
theorem list_done {W wr w2 wf : World} {g HO lo : Nat} {zc : List Value} (hR : Box wr g zc) (hL : Later W wr) (h2 : Later wr w2) (c : Chg (fun b => b = HO ∨ lo ≤ b) w2 wf) (hg : g < lo) (hgO : g ≠ HO) (hlo : W.heap.size ≤ lo) (hHO : W.heap.size ≤ HO) :
    Box wf g zc ∧ Later W wf ∧ wr.heap.size ≤ wf.heap.size :=
  ⟨(hR.later h2).chg c fun h => by omega, Chg.later (hL.trans h2) c fun k hk => by omega, Nat.le_trans h2.size c.size⟩

set_option maxHeartbeats 8000000 in
theorem specListValue (l : List Vl) (W : World) (S : Nat → Prop) (v : Value) (h : SlAt W S 7 encV l v) (hn : l.length + sumN Vl.cost l ≤ 1048576) : Calls Try.prog 35 #[v] W fun r w' => CopyV W w' (listD l) r ∧ Later W w' := by
  obtain ⟨A, c, rfl, hlc, hcm⟩ := sl_parts h
  have HE := Lib.hid h; clear h
  obtain ⟨i0, hi, hz0, hz1, hz2⟩ := info_parts info_value
  go_enter Try.func35, Try.ntmps35
  go_wp2_with fail
  have bR : Box ((W.alloc (.cells #[.int .i64 0, .int .i64 0, .int .i64 0, .string ⟨#[]⟩, .slice none 0 0, .slice none 0 0, .slice none 0 0] 28)).alloc (.cells #[.int .i64 3, .int .i64 0, .int .i64 0, .string ⟨#[]⟩, .slice none 0 0, .slice none 0 0, .slice none 0 0] 28)) W.heap.size [.int .i64 0, .int .i64 0, .int .i64 0, .string ⟨#[]⟩, .slice none 0 0, .slice none 0 0, .slice none 0 0] := (box_alloc W #[.int .i64 0, .int .i64 0, .int .i64 0, .string ⟨#[]⟩, .slice none 0 0, .slice none 0 0, .slice none 0 0] 28).later ((Later.rfl' _).alloc _)
  have bO : Box ((W.alloc (.cells #[.int .i64 0, .int .i64 0, .int .i64 0, .string ⟨#[]⟩, .slice none 0 0, .slice none 0 0, .slice none 0 0] 28)).alloc (.cells #[.int .i64 3, .int .i64 0, .int .i64 0, .string ⟨#[]⟩, .slice none 0 0, .slice none 0 0, .slice none 0 0] 28)) (W.heap.size + 1) [.int .i64 3, .int .i64 0, .int .i64 0, .string ⟨#[]⟩, .slice none 0 0, .slice none 0 0, .slice none 0 0] := by
    have h := box_alloc (W.alloc (.cells #[.int .i64 0, .int .i64 0, .int .i64 0, .string ⟨#[]⟩, .slice none 0 0, .slice none 0 0, .slice none 0 0] 28)) #[.int .i64 3, .int .i64 0, .int .i64 0, .string ⟨#[]⟩, .slice none 0 0, .slice none 0 0, .slice none 0 0] 28
    rw [World.size_alloc] at h
    exact h
  have HR0 := Lib.hid bR; have HO0 := Lib.hid bO
  clear bR bO
  go_loopw [4] (fun i wr => ∃ (x1 : List Vl) (lv : Value), i = .int .i64 (x1.length : Int) ∧ l.take x1.length = x1 ∧ x1.length ≤ l.length ∧ Box wr W.heap.size [.int .i64 0, .int .i64 0, .int .i64 0, .string ⟨#[]⟩, .slice none 0 0, .slice none 0 0, .slice none 0 0] ∧ Box wr (W.heap.size + 1) [.int .i64 3, .int .i64 0, .int .i64 0, .string ⟨#[]⟩, lv, .slice none 0 0, .slice none 0 0] ∧ Trio (W.heap.size + 2) (W.heap.size + 1) wr x1 [] [] lv (.slice none 0 0) (.slice none 0 0) ∧ Later W wr ∧ W.heap.size + 2 ≤ wr.heap.size) (fun i _ => l.length - (intOf i).toNat)
  case atStart => exact ⟨[], .slice none 0 0, rfl, rfl, Nat.zero_le _, HR0.out, HO0.out, Trio.nils _ _ _, ((Later.rfl' _).alloc _).alloc _, by simp⟩
  case round =>
    obtain ⟨x1, lv, rfl, htk, hle, hR, hO, hT, hL, hszO⟩ := hrel
    clear HR0 HO0
    by_cases hlt : x1.length < l.length
    · obtain ⟨b, off, y0, y1, y2, y3, B1, m1, e1, B2, m2, e2, B3, m3, e3, rfl, hb, _, hx, f0, f1, f2, f3, f4, f5, f6⟩ := (HE.out.later hL).valAt hlt
      have hcx := sumN_mem Vl.cost (List.getElem_mem hlt)
      have C := fun W' (hW' : Later wr W') => specCopy l[x1.length] (by omega) W' S _ (hx.later hW')
      obtain ⟨D, hD⟩ : ∃ D, D = l[x1.length] := ⟨_, rfl⟩
      rw [← hD] at C
      have HD := Lib.hid hD; have HC := Lib.hid C
      have HR := Lib.hid hR; have HBO := Lib.hid hO; have HT := Lib.hid hT; have HL := Lib.hid hL
      have hkO := hO.cell (j := 4) rfl
      have hzO := hO.lt
      have hjn : (x1.length + 1) * 112 ≤ 140737488355328 := by omega
      have hjm : x1.length + 1 ≤ maxLen := by unfold maxLen; omega
      have hki : (x1.length : Int) < (l.length : Int) := by omega
      clear C hD hx hcx hR hO hT hL
      go_wp2_with fail
      go_region_law (first
        | (refine step_append_lies _ rfl (.tmp 13) (.tmp 19) 24 rfl 0 28 i0 (.agg #[.int .i64 0, .int .i64 0, .int .i64 0, .string ByteArray.empty, .slice none 0 0, .slice none 0 0, .slice none 0 0]) 7 112 Try.underlying24 hi hz0 hz1 hz2 rfl (by decide) lv x1.length xs (by simp [Act.eval, Act.put]) a1 ⟨w2.heap.size, 0, none⟩ 1 1 [.int .i64 z0, .int .i64 z1, .int .i64 z2, .string z3, .slice E1 u1 v1, .slice E2 u2 v2, .slice E3 u3 v3] (by simp [Act.eval, Act.put]) a2 a4.out a3.out (by omega) hjm hjn (Nat.zero_le _) (w2.heap.size + 1) (by simp) ?_; intro gg cap w4 ho4 hg4 hat4 hlt4; obtain ⟨B4, HFN⟩ := a5.out gg cap w4 ho4 hg4 hat4; have m4 := B4.cell (j := 4) rfl; have mf := B4.free 4; clear ho4 hg4 hat4 B4)
        | (go_simp; go_at_call 100; refine (HC.out _ (Later.rfl' _).drew).mono ?_; rintro e w2 ⟨⟨z0, z1, z2, z3, E1, u1, v1, E2, u2, v2, E3, u3, v3, rfl, ho⟩, hl2⟩; have HALL := Lib.hid (trio_list (p := 4) 28 HT.out HBO.out (((Later.rfl' wr).drew.trans hl2).chg (fun _ => False)) (fun b h => False.elim h) hszO ho); have HL2 := Lib.hid ((Later.rfl' wr).drew.trans hl2); obtain ⟨b2, xs, a1, a2, a3, a4, a5⟩ := HALL.out; have k2 := b2.cell (j := 4) rfl; have z2' := b2.lt; replace a3 := Lib.hid a3; replace a4 := Lib.hid a4; replace a5 := Lib.hid a5; clear b2 HALL hl2 ho))
      all_goals
        (obtain ⟨D1, D2, D3⟩ := list_done HR.out HL.out HL2.out HFN.out.2.2 (by omega) (by omega) (by omega) (by omega)
         have E1' := Lib.hid D1; have E2' := Lib.hid D2
         clear D1 D2 k2 z2' hkO hzO a1 a2 a3 a4 a5 m4 mf f0 f1 f2 f3 f4 f5 f6
         go_wp2_with fail
         go_roundw
         case rel => exact ⟨x1 ++ [D], _, by rw [List.length_append]; go_num, take_snoc htk hlt HD.out, by rw [List.length_append]; simp; omega, E1'.out, HFN.out.2.1, HFN.out.1, E2'.out, by omega⟩
         case measure => simp [intOf]; omega)
    · obtain rfl := take_full htk hle hlt
      obtain ⟨A4, c4, A5, c5, A6, c6, rfl, _, _⟩ := hT.shape
      have HOW : Hid (Owns wr (fun b => W.heap.size + 2 ≤ b ∧ b < wr.heap.size) (encV (listD x1)) [.int .i64 3, .int .i64 0, .int .i64 0, .string ⟨#[]⟩, .slice A4 x1.length c4, .slice none 0 0, .slice none 0 0]) := hT.drawn.owns (by unfold Between64; omega) (by unfold Between64; omega) (by unfold Between64; omega) (by decide)
      have HL := Lib.hid hL
      have rc0 := hR.cell (j := 0) rfl
      have y0 := hR.free 0
      have z0 := hO.cell (j := 0) rfl
      have rc1 := hR.cell (j := 1) rfl
      have y1 := hR.free 1
      have z1 := hO.cell (j := 1) rfl
      have rc2 := hR.cell (j := 2) rfl
      have y2 := hR.free 2
      have z2 := hO.cell (j := 2) rfl
      have rc3 := hR.cell (j := 3) rfl
      have y3 := hR.free 3
      have z3 := hO.cell (j := 3) rfl
      have rc4 := hR.cell (j := 4) rfl
      have y4 := hR.free 4
      have z4 := hO.cell (j := 4) rfl
      have rc5 := hR.cell (j := 5) rfl
      have y5 := hR.free 5
      have z5 := hO.cell (j := 5) rfl
      have rc6 := hR.cell (j := 6) rfl
      have y6 := hR.free 6
      have z6 := hO.cell (j := 6) rfl
      have hzs := hO.lt
      have hws := hR.lt
      clear hR hO hT hL htk hle HE
      go_wp2_with fail
      exact bodyPost_ret (v := .agg #[.int .i64 3, .int .i64 0, .int .i64 0, .string ⟨#[]⟩, .slice A4 x1.length c4, .slice none 0 0, .slice none 0 0]) (by simp [results, Try.results35, go_sem, rc0, rc1, rc2, rc3, rc4, rc5, rc6]) rfl (copy_endR rfl HOW.out HL.out (Nat.le_refl _) (by omega) _ _ _ _ _ _ _)

/-- What copyValues returns. -/
def PushS (W w' : World) (l : List Vl) (r : Ending) : Prop := ∃ v, r = .returned v ∧ Pushed W.heap.size w' 28 7 encV l v
set_option maxHeartbeats 8000000 in
theorem implCopyS (l : List Vl) (hq : ∀ x, x ∈ l → CopyQ 84 x) (W : World) (S : Nat → Prop) (v : Value) (h : SlAt W S 7 encV l v) (hn : l.length + sumN Vl.cost l ≤ 1048576) : Calls Try.prog 89 #[v] W fun r w' => PushS W w' l r ∧ Later W w' := by
  obtain ⟨A, c, rfl, hlc, hcm⟩ := sl_parts h
  have HE := Lib.hid h; have HQ := Lib.hid hq; clear h hq
  obtain ⟨i0, hi, hz0, hz1, hz2⟩ := info_parts info_value
  go_enter Try.func89, Try.ntmps89
  go_wp2_with fail
  go_loopw [3, 9] (fun o i wr => ∃ x1 : List Vl, i = .int .i64 (x1.length : Int) ∧ l.take x1.length = x1 ∧ x1.length ≤ l.length ∧ Pushed W.heap.size wr 28 7 encV x1 o ∧ Later W wr) (fun _ i _ => l.length - (intOf i).toNat)
  case atStart => exact ⟨[], rfl, rfl, Nat.zero_le _, Pushed.row0 encV (World.ownsRow_made W #[] 0 (Nat.le_refl _) (Nat.zero_le _) rfl), (Later.rfl' _).alloc _⟩
  case round =>
    obtain ⟨x1, rfl, htk, hle, hP, hL⟩ := hrel
    by_cases hlt : x1.length < l.length
    · obtain ⟨b, off, y0, y1, y2, y3, B1, m1, e1, B2, m2, e2, B3, m3, e3, rfl, hb, _, hx, f0, f1, f2, f3, f4, f5, f6⟩ := (HE.out.later hL).valAt hlt
      have hcx := sumN_mem Vl.cost (List.getElem_mem hlt)
      have C := fun W' (hW' : Later wr W') => HQ.out l[x1.length] (List.getElem_mem hlt) (by omega) W' S _ (hx.later hW')
      obtain ⟨D, hD⟩ : ∃ D, D = l[x1.length] := ⟨_, rfl⟩
      rw [← hD] at C
      have HD := Lib.hid hD; have HC := Lib.hid C; have HP := Lib.hid hP; have HL := Lib.hid hL
      have hjn : (x1.length + 1) * 112 ≤ 140737488355328 := by omega
      have hjm : x1.length + 1 ≤ maxLen := by unfold maxLen; omega
      have hki : (x1.length : Int) < (l.length : Int) := by omega
      have hlo := hL.size
      clear C hD hx hcx hP hL
      go_wp2_with fail
      refine (HC.out _ ((Later.rfl' _).alloc _)).mono ?_; rintro e w2 ⟨⟨z0, z1, z2, z3, E1, u1, v1, E2, u2, v2, E3, u3, v3, rfl, ho⟩, hl2⟩
      have hl3 := ((Later.rfl' wr).alloc (.cells #[.int .i64 y0, .int .i64 y1, .int .i64 y2, .string y3, .slice B1 m1 e1, .slice B2 m2 e2, .slice B3 m3 e3] 28)).trans hl2
      have ho' := ho.more (S' := fun b => wr.heap.size ≤ b ∧ b < w2.heap.size) fun b hb => ⟨by have := hb.1; simp at this; omega, hb.2⟩
      obtain ⟨xs, a1, a2, a3, a4, a5, a6⟩ := HP.out.ask encV_len (hl3.chg (fun _ => False)) (fun _ _ h => h) hlo ho' 28
      have A3 := Lib.hid a3; have A4 := Lib.hid a4; have A6 := Lib.hid a6; have HL3 := Lib.hid (HL.out.trans hl3); have HROW := Lib.hid a1
      clear a3 a4 a6 hl3 ho ho' hl2 f0 f1 f2 f3 f4 f5 f6
      go_wp2_with (at_builtin; refine wpList_append_lies _ rfl (.tmp 13) (.tmp 16) 24 rfl W.heap.size 28 i0 (.agg #[.int .i64 0, .int .i64 0, .int .i64 0, .string ByteArray.empty, .slice none 0 0, .slice none 0 0, .slice none 0 0]) 7 112 Try.underlying24 hi hz0 hz1 hz2 rfl (by decide) _ x1.length xs rfl a1 ⟨w2.heap.size, 0, none⟩ 1 1 [.int .i64 z0, .int .i64 z1, .int .i64 z2, .string z3, .slice E1 u1 v1, .slice E2 u2 v2, .slice E3 u3 v3] rfl a2 A4.out A3.out (by omega) hjm hjn a5 (w2.heap.size + 1) (by simp) ?_)
      intro gg cap w4 ho4 hg4 hat4 hlt4
      have HPN := Lib.hid (A6.out gg cap w4 ho4 hg4 hat4)
      have HLN := Lib.hid (later_appendN (HL3.out.alloc _) HROW.out hg4)
      clear ho4 hg4 hat4 a1 a2 a5 A3 A4 A6 HROW
      go_wp2_with fail
      go_roundw
      case rel => exact ⟨x1 ++ [D], by rw [List.length_append]; go_num, take_snoc htk hlt HD.out, by rw [List.length_append]; simp; omega, HPN.out, HLN.out⟩
      case measure => simp [intOf]; omega
    · obtain rfl := take_full htk hle hlt
      have HP := Lib.hid hP; have HL := Lib.hid hL
      clear hP hL
      go_wp2_with fail
      go_ret
      exact ⟨⟨_, rfl, HP.out⟩, HL.out⟩

end Go.Proofs.Ytghemlokpfipoaa
namespace Go.Proofs.Ytghemlokpfipoaa
open Go.ChangeShapes Go.WideShapes Go.ChangeAt Go.RowKit
set_option linter.unusedVariables false
set_option linter.unusedSimpArgs false
set_option maxRecDepth 100000

/-- A pushed list and a row of strings, each in memory of its own. -/
theorem trio_two {lo HO : Nat} {w1 wx : World} {l : List Vl} {lv : Value} {cl : List ByteArray} {us : List Value} {v : Value} (hp : Pushed lo w1 28 7 encV l lv) (c : Chg (fun b => b = HO) w1 wx) (hHO : HO < lo)
    (ho : wx.ownsRow 0 9 1 v cl.length us) (hq : ∀ W' (p : Nat) d u, (cl.flatMap encS)[p]? = some d → us[p]? = some u → Own W' (fun _ => False) d u) (hlo : lo ≤ w1.heap.size) (hv : ∀ b, v.ownBlock = some b → w1.heap.size ≤ b) :
    Trio lo HO wx l cl [] lv v (.slice none 0 0) := by
  have hs := c.size
  refine ⟨fun b => lo ≤ b ∧ b < w1.heap.size, fun b => v.ownBlock = some b, fun _ => False, fun b hb => ?_, fun b h1 h2 => by have := hv b h2; omega, fun _ _ h => h, fun _ _ h => h, hp.in_.chg c fun b h1 h2 => by omega,
    ⟨us, noB, ho, fun g hg => hg, fun _ _ h => False.elim h, fun _ _ _ _ h => False.elim h, fun p d u hd hu => hq wx p d u hd hu⟩, PushIn.nil _ _ _ _ _⟩
  rcases hb with hb | hb | hb
  · omega
  · have h1 := hv b hb
    have h2 := (ho.lt b hb).2
    omega
  · exact False.elim hb
theorem copy_done3 {W wr w2 wf : World} {pc zc : List Value} (hP : Box wr W.heap.size pc) (hR : Box wr (W.heap.size + 1) zc) (hL : Later W wr) (h2 : Later wr w2) (c : Chg (fun b => b = W.heap.size + 1 + 1 ∨ W.heap.size + 3 ≤ b) w2 wf) :
    Box wf W.heap.size pc ∧ Box wf (W.heap.size + 1) zc ∧ Later W wf ∧ wr.heap.size ≤ wf.heap.size :=
  ⟨(hP.later h2).chg c fun h => by omega, (hR.later h2).chg c fun h => by omega, Chg.later (hL.trans h2) c fun k hk => by omega, Nat.le_trans h2.size c.size⟩

set_option maxHeartbeats 8000000 in
theorem implCopy : ∀ d, CopyQ 84 d := by
  refine Vl.ind fun k n s t l cl r ih hcost W S cs h => ?_
  obtain ⟨A1, c1, A2, c2, A3, c3, rfl, hbb, ⟨p1, q1⟩, ⟨p2, q2⟩, ⟨p3, q3⟩, g1, g2, g3⟩ := h.val
  rw [Vl.cost_mk] at hcost
  have hcl : cl.length ≤ costS cl := by unfold costS; omega
  obtain ⟨us, l1, n1, k1, o1, _, m1⟩ := leaf_cells2 g2 leaf_S (by omega)
  obtain ⟨i0, hi, hz0, hz1, hz2⟩ := info_parts info_string
  have C := fun W' (hW' : Later W W') => implCopyS l ih W' S _ (g1.later hW') (by omega)
  have M1 := Lib.hid m1; have K1 := Lib.hid k1; have O1 := Lib.hid o1; have N1 := Lib.hid n1; have HF := Lib.hid g3; have HBB := Lib.hid hbb; have HC := Lib.hid C
  clear m1 k1 o1 n1 g1 g2 g3 h ih hbb C
  go_enter Try.func84, Try.ntmps84
  go_wp2_with fail
  refine (HC.out _ ((((Later.rfl' _).alloc _).alloc _).alloc _)).mono ?_; rintro e w1 ⟨⟨lv, rfl, hp⟩, hl1⟩
  obtain ⟨bP, bR, bO, hs1, hL1⟩ := box3 hl1
  obtain ⟨A4, c4, rfl⟩ := pushed_shape hp
  rw [show ((((W.alloc (.cells #[.int .i64 k, .int .i64 n, .int .i64 s, .string t, .slice A1 l.length c1, .slice A2 cl.length c2, .slice A3 r.length c3] 28)).alloc (.cells #[.int .i64 0, .int .i64 0, .int .i64 0, .string ⟨#[]⟩, .slice none 0 0, .slice none 0 0, .slice none 0 0] 28)).alloc (.cells #[.int .i64 k, .int .i64 n, .int .i64 s, .string t, .slice A1 l.length c1, .slice A2 cl.length c2, .slice A3 r.length c3] 28)).heap.size) = W.heap.size + 3 by simp] at hp
  have hP := bP.other (g' := (W.heap.size + 1 + 1)) 4 (.slice A4 l.length c4) (by omega)
  have hR := bR.other (g' := (W.heap.size + 1 + 1)) 4 (.slice A4 l.length c4) (by omega)
  have hO := bO.set 4 (.slice A4 l.length c4)
  have k4 := bO.cell (j := 4) rfl
  have f4 := bO.free 4
  have hcg : Chg (fun b => b = (W.heap.size + 1 + 1)) w1 (w1.setCell ⟨(W.heap.size + 1 + 1), 4, none⟩ (.slice A4 l.length c4)) := (Chg.rfl' (fun b => b = (W.heap.size + 1 + 1)) w1).set rfl
  have hLw : Later W (w1.setCell ⟨(W.heap.size + 1 + 1), 4, none⟩ (.slice A4 l.length c4)) := hL1.set (by omega) 4 _
  have k5 := (hP.later ((Later.rfl' _).alloc (.cells #[] 9))).cell (j := 5) rfl
  have hsz : (w1.setCell ⟨(W.heap.size + 1 + 1), 4, none⟩ (.slice A4 l.length c4)).heap.size = w1.heap.size := World.size_setCell ..
  have hlt := bO.lt
  have BP := Lib.hid hP; have BR := Lib.hid hR; have BO := Lib.hid hO; have HP := Lib.hid hp; have HCG := Lib.hid hcg; have HLW := Lib.hid hLw; have HSZ := Lib.hid hsz
  clear bP bR bO hP hR hO hp hcg hLw hl1 hL1 hsz
  go_wp2_with (at_builtin; refine wpList_append_zero _ rfl (.tmp 11) (.tmp 13) 25 rfl 9 i0 (.string ByteArray.empty) 1 16 Try.underlying25 hi hz0 hz1 hz2 rfl (by decide) _ rfl (fresh_own (Later.rfl' _) (by first | rfl | omega | (simp; done) | (simp; omega))) A2 cl.length c2 us rfl l1 N1.out (K1.out _ (HLW.out.alloc _)) O1.out (by unfold maxLen; omega) (by omega) ?_)
  intro vA wA hoA hbA hatA
  obtain ⟨A5, c5, rfl, _, _, _⟩ := row_shape hoA
  have hbw := ((Later.rfl' (w1.setCell ⟨(W.heap.size + 1 + 1), 4, none⟩ (.slice A4 l.length c4))).alloc _).trans hbA
  have hP := (BP.out.later hbw)
  have hR := (BR.out.later hbw)
  have hO := (BO.out.later hbw)
  have j5 := hO.cell (j := 5) rfl
  have g5 := hO.free 5
  have hO2 := hO.set 5 (.slice A5 cl.length c5)
  have j6 := hO2.cell (j := 6) rfl
  have g6 := hO2.free 6
  have hO3 := hO2.set 6 (.slice none 0 0)
  have hP3 := (hP.other (g' := (W.heap.size + 1 + 1)) 5 (.slice A5 cl.length c5) (by omega)).other (g' := (W.heap.size + 1 + 1)) 6 (.slice none 0 0) (by omega)
  have hR3 := (hR.other (g' := (W.heap.size + 1 + 1)) 5 (.slice A5 cl.length c5) (by omega)).other (g' := (W.heap.size + 1 + 1)) 6 (.slice none 0 0) (by omega)
  have x6 := hP3.cell (j := 6) rfl
  have hsO := hO.lt
  have hc2 : Chg (fun b => b = (W.heap.size + 1 + 1)) wA ((wA.setCell ⟨(W.heap.size + 1 + 1), 5, none⟩ (.slice A5 cl.length c5)).setCell ⟨(W.heap.size + 1 + 1), 6, none⟩ (.slice none 0 0)) := ((Chg.rfl' (fun b => b = (W.heap.size + 1 + 1)) wA).set rfl).set rfl
  have hL3 : Later W ((wA.setCell ⟨(W.heap.size + 1 + 1), 5, none⟩ (.slice A5 cl.length c5)).setCell ⟨(W.heap.size + 1 + 1), 6, none⟩ (.slice none 0 0)) := ((HLW.out.trans hbw).set (by omega) 5 _).set (by omega) 6 _
  have hT : Trio (W.heap.size + 3) (W.heap.size + 1 + 1) ((wA.setCell ⟨(W.heap.size + 1 + 1), 5, none⟩ (.slice A5 cl.length c5)).setCell ⟨(W.heap.size + 1 + 1), 6, none⟩ (.slice none 0 0)) l cl [] (.slice A4 l.length c4) (.slice A5 cl.length c5) (.slice none 0 0) := by
    refine trio_two HP.out ((HCG.out.trans (hbw.chg _)).trans hc2) (by omega) (row_block hoA fun b hb => hc2.block b (hoA.lt b hb).2 fun e => ?_) M1.out (by omega) (fun b hb => ?_)
    · rcases hatA with h | h <;> rw [h] at hb <;> simp at hb <;> (have := HSZ.out; simp at this; omega)
    · rcases hatA with h | h <;> rw [h] at hb <;> simp at hb <;> (have := HSZ.out; simp at this; omega)
  have HT := Lib.hid hT; have HP0 := Lib.hid hP3; have HR0 := Lib.hid hR3; have HO0 := Lib.hid hO3; have HL0 := Lib.hid hL3
  clear hT hP3 hR3 hO3 hL3 hP hR hO hO2 hc2 hbw hoA hbA hatA k4 f4 k5 BP BR BO HP HCG HLW HSZ M1 K1 O1 N1 HC hi hz0 hz1 hz2
  obtain ⟨j0, hj, hy0, hy1, hy2⟩ := info_parts info_row
  go_wp2_with fail
  go_loopw [20] (fun i wr => ∃ (r1 : List Rw) (rv : Value), i = .int .i64 (r1.length : Int) ∧ r.take r1.length = r1 ∧ r1.length ≤ r.length ∧ Box wr W.heap.size [.int .i64 k, .int .i64 n, .int .i64 s, .string t, .slice A1 l.length c1, .slice A2 cl.length c2, .slice A3 r.length c3] ∧ Box wr (W.heap.size + 1) [.int .i64 0, .int .i64 0, .int .i64 0, .string ⟨#[]⟩, .slice none 0 0, .slice none 0 0, .slice none 0 0] ∧ Box wr (W.heap.size + 1 + 1) [.int .i64 k, .int .i64 n, .int .i64 s, .string t, .slice A4 l.length c4, .slice A5 cl.length c5, rv] ∧ Trio (W.heap.size + 3) (W.heap.size + 1 + 1) wr l cl r1 (.slice A4 l.length c4) (.slice A5 cl.length c5) rv ∧ Later W wr) (fun i _ => r.length - (intOf i).toNat)
  case atStart => exact ⟨[], .slice none 0 0, rfl, rfl, Nat.zero_le _, HP0.out, HR0.out, HO0.out, HT.out, HL0.out⟩
  case round =>
    obtain ⟨r1, rv, rfl, htk, hle, hP, hR, hO, hT, hL⟩ := hrel
    clear HT HP0 HR0 HO0 HL0 j5 g5 j6 g6 x6
    by_cases hlr : r1.length < r.length
    · obtain ⟨b, off, B1, e1, B2, e2, rfl, hb, _, hx, f0, f1⟩ := (HF.out.later hL).rowAt hlr
      have hcx := sumN_mem Rw.cost (List.getElem_mem hlr)
      have C := fun W' (hW' : Later wr W') => implRow r[r1.length] W' S _ (hx.later hW') (by omega)
      obtain ⟨D, hD⟩ : ∃ D, D = r[r1.length] := ⟨_, rfl⟩
      rw [← hD] at C f0 f1
      have hlv : Later wr (wr.alloc (.cells #[.slice B1 D.cells.length e1, .slice B2 D.from_.length e2] 79)) := (Later.rfl' _).alloc _
      have x0 : (wr.alloc (.cells #[.slice B1 D.cells.length e1, .slice B2 D.from_.length e2] 79)).cell? ⟨wr.heap.size, 0, none⟩ = some (.slice B1 D.cells.length e1) := boxN (Later.rfl' _) rfl
      have x1 : (wr.alloc (.cells #[.slice B1 D.cells.length e1, .slice B2 D.from_.length e2] 79)).cell? ⟨wr.heap.size, 1, none⟩ = some (.slice B2 D.from_.length e2) := boxN (Later.rfl' _) rfl
      obtain ⟨wv, hwv⟩ : ∃ wv, wv = (wr.alloc (.cells #[.slice B1 D.cells.length e1, .slice B2 D.from_.length e2] 79)) := ⟨_, rfl⟩
      have HWV : Hid (wv = (wr.alloc (.cells #[.slice B1 D.cells.length e1, .slice B2 D.from_.length e2] 79))) := hwv
      rw [← hwv] at hlv x0 x1
      clear hwv
      have HD := Lib.hid hD; have HC := Lib.hid fun W' (hW' : Later wv W') => C W' (hlv.trans hW')
      have hPv := hP.later hlv; have hRv := hR.later hlv; have hOv := hO.later hlv; have hTv := hT.later hlv; have hLv := hL.trans hlv
      have HP := Lib.hid hPv; have HR := Lib.hid hRv; have HBO := Lib.hid hOv; have HT := Lib.hid hTv; have HL := Lib.hid hLv
      have hkO := hOv.cell (j := 6) rfl
      have hzO := hOv.lt
      have hszO : W.heap.size + 3 ≤ wv.heap.size := by omega
      have hjn : (r1.length + 1) * 48 ≤ 140737488355328 := by omega
      have hjm : r1.length + 1 ≤ maxLen := by unfold maxLen; omega
      have hki : (r1.length : Int) < (r.length : Int) := by omega
      clear C hD hx hcx hP hR hO hT hL hPv hRv hOv hTv hLv hlv
      go_wp2_with fail
      rw [← HWV.out]
      go_region_law (first
        | (refine step_append_lies _ rfl (.tmp 25) (.tmp 28) 26 rfl 0 79 j0 (.agg #[.slice none 0 0, .slice none 0 0]) 2 48 Try.underlying26 hj hy0 hy1 hy2 rfl (by decide) rv r1.length xs (by simp [Act.eval, Act.put]) a1 ⟨w2.heap.size, 0, none⟩ 1 1 [.slice E1 D.cells.length v1, .slice E2 D.from_.length v2] (by simp [Act.eval, Act.put]) a2 a4.out a3.out (by omega) hjm hjn (Nat.zero_le _) (w2.heap.size + 1) (by simp) ?_; intro gg cap w4 ho4 hg4 hat4 hlt4; obtain ⟨B4, HFN⟩ := a5.out gg cap w4 ho4 hg4 hat4; have m4 := B4.cell (j := 6) rfl; have mf := B4.free 6; clear ho4 hg4 hat4 B4)
        | (go_simp; go_at_call 137; refine (HC.out _ (Later.rfl' _).drew).mono ?_; rintro e w2 ⟨⟨E1, v1, E2, v2, rfl, ho⟩, hl2⟩; have HALL := Lib.hid (trio_rows (p := 6) 79 HT.out HBO.out (((Later.rfl' wv).drew.trans hl2).chg (fun _ => False)) (fun b h => False.elim h) hszO ho); have HL2 := Lib.hid ((Later.rfl' wv).drew.trans hl2); obtain ⟨b2, xs, a1, a2, a3, a4, a5⟩ := HALL.out; have k2 := b2.cell (j := 6) rfl; have z2' := b2.lt; replace a3 := Lib.hid a3; replace a4 := Lib.hid a4; replace a5 := Lib.hid a5; clear b2 HALL hl2 ho))
      all_goals
        (obtain ⟨D1, D2, D3, D4⟩ := copy_done3 HP.out HR.out HL.out HL2.out HFN.out.2.2
         have E1' := Lib.hid D1; have E2' := Lib.hid D2; have E3' := Lib.hid D3
         clear D1 D2 D3 k2 z2' hkO hzO a1 a2 a3 a4 a5 m4 mf f0 f1 x0 x1
         go_wp2_with fail
         go_roundw
         case rel => exact ⟨r1 ++ [D], _, by rw [List.length_append]; go_num, take_snoc htk hlr HD.out, by rw [List.length_append]; simp; omega, E1'.out, E2'.out, HFN.out.2.1, HFN.out.1, E3'.out⟩
         case measure => simp [intOf]; omega)
    · obtain rfl := take_full htk hle hlr
      obtain ⟨A4', c4', A5', c5', A6, c6, e4, e5, rfl⟩ := hT.shape
      have HOW := Lib.hid ((hT.drawn.owns (k := k) (n := n) (s := s) (t := t) HBB.out.1 HBB.out.2.1 HBB.out.2.2.1 HBB.out.2.2.2))
      have HL := Lib.hid hL
      have z0 := hO.cell (j := 0) rfl
      have y0 := hR.free 0
      have rc0 := hR.cell (j := 0) rfl
      have z1 := hO.cell (j := 1) rfl
      have y1 := hR.free 1
      have rc1 := hR.cell (j := 1) rfl
      have z2 := hO.cell (j := 2) rfl
      have y2 := hR.free 2
      have rc2 := hR.cell (j := 2) rfl
      have z3 := hO.cell (j := 3) rfl
      have y3 := hR.free 3
      have rc3 := hR.cell (j := 3) rfl
      have z4 := hO.cell (j := 4) rfl
      have y4 := hR.free 4
      have rc4 := hR.cell (j := 4) rfl
      have z5 := hO.cell (j := 5) rfl
      have y5 := hR.free 5
      have rc5 := hR.cell (j := 5) rfl
      have z6 := hO.cell (j := 6) rfl
      have y6 := hR.free 6
      have rc6 := hR.cell (j := 6) rfl
      have hzs := hO.lt
      have hws := hR.lt
      clear hP hR hO hT hL htk hle HF HBB e4 e5
      go_wp2_with fail
      exact bodyPost_ret (v := .agg #[.int .i64 k, .int .i64 n, .int .i64 s, .string t, .slice A4 l.length c4, .slice A5 cl.length c5, .slice A6 r1.length c6]) (by simp [results, Try.results84, go_sem, rc0, rc1, rc2, rc3, rc4, rc5, rc6]) rfl (copy_endR rfl HOW.out HL.out (by omega) (by omega) _ _ _ _ _ _ _)

theorem implListValue (l : List Vl) (W : World) (S : Nat → Prop) (v : Value) (h : SlAt W S 7 encV l v) (hn : l.length + sumN Vl.cost l ≤ 1048576) : Calls Try.prog 37 #[v] W fun r w' => CopyV W w' (listD l) r ∧ Later W w' := by
  have C := fun W' (hW' : Later W W') => implCopyS l (fun x _ => implCopy x) W' S _ (h.later hW') hn
  have HC := Lib.hid C
  clear C h
  go_enter Try.func37, Try.ntmps37
  go_wp2_with fail
  refine (HC.out _ ((Later.rfl' _).alloc _)).mono ?_; rintro e w1 ⟨⟨lv, rfl, hp⟩, hl1⟩
  have hR : Box w1 W.heap.size [.int .i64 0, .int .i64 0, .int .i64 0, .string ⟨#[]⟩, .slice none 0 0, .slice none 0 0, .slice none 0 0] := (box_alloc W #[.int .i64 0, .int .i64 0, .int .i64 0, .string ⟨#[]⟩, .slice none 0 0, .slice none 0 0, .slice none 0 0] 28).later hl1
  obtain ⟨A4, c4, rfl⟩ := pushed_shape hp
  rw [World.size_alloc] at hp
  have HOW := Lib.hid (owns_list hp (Nat.le_refl _))
  have HL := Lib.hid (((Later.rfl' W).alloc _).trans hl1)
  have y0 := hR.free 0
  have rc0 := hR.cell (j := 0) rfl
  have y1 := hR.free 1
  have rc1 := hR.cell (j := 1) rfl
  have y2 := hR.free 2
  have rc2 := hR.cell (j := 2) rfl
  have y3 := hR.free 3
  have rc3 := hR.cell (j := 3) rfl
  have y4 := hR.free 4
  have rc4 := hR.cell (j := 4) rfl
  have y5 := hR.free 5
  have rc5 := hR.cell (j := 5) rfl
  have y6 := hR.free 6
  have rc6 := hR.cell (j := 6) rfl
  have hws := hR.lt
  clear hR hp hl1
  go_wp2_with fail
  exact bodyPost_ret (v := .agg #[.int .i64 3, .int .i64 0, .int .i64 0, .string ⟨#[]⟩, .slice A4 l.length c4, .slice none 0 0, .slice none 0 0]) (by simp [results, Try.results37, go_sem, rc0, rc1, rc2, rc3, rc4, rc5, rc6]) rfl (copy_endR rfl HOW.out HL.out (Nat.le_refl _) (Nat.lt_succ_self _) _ _ _ _ _ _ _)

end Go.Proofs.Ytghemlokpfipoaa
