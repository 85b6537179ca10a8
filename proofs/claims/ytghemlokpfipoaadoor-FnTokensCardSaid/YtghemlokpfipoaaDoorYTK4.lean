/-
  Tokens: Tokenize, of the specification and of the program: the walks.
-/
import Derived.Test.YtghemlokpfipoaaDoorYTK3
import Derived.Test.YtghemlokpfipoaaDoorYTK1
import Derived.Test.YtghemlokpfipoaaDoorYPU2
namespace Go.Proofs.YtghemlokpfipoaaDoor
open Go.ChangeShapes Go.WideShapes Go.ChangeAt Go.RowKit
set_option linter.unusedVariables false
set_option linter.unusedSimpArgs false
set_option maxRecDepth 100000

/-- What Tokenize returns. -/
def TokOut (W w' : World) (s : ByteArray) (r : Ending) : Prop := ∃ v, r = .returned (.tuple #[v, .int .i64 (tokensB s).2]) ∧ Pushed W.heap.size w' 33 4 encT (tokensB s).1 v
theorem tok_nil (lo : Nat) (w : World) : Pushed lo w 33 4 encT [] (.slice none 0 0) := Pushed.row0 encT (World.ownsRow_nil _ _ _ _)
theorem tok_fresh (W w : World) (hb : Later W w) : Pushed W.heap.size (w.alloc (.cells #[] 33)) 33 4 encT [] (.slice (some ⟨w.heap.size, 0, none⟩) 0 0) :=
  Pushed.row0 encT (World.ownsRow_made w #[] 0 hb.size (Nat.zero_le _) rfl)
theorem tok_fresh2 (W w : World) (o : Obj) (hb : Later W w) : Pushed W.heap.size ((w.alloc o).alloc (.cells #[] 33)) 33 4 encT [] (.slice (some ⟨w.heap.size + 1, 0, none⟩) 0 0) := by
  have h := tok_fresh W (w.alloc o) (hb.alloc o)
  rw [World.size_alloc] at h
  exact h
theorem tok_shape {lo : Nat} {w : World} {e : Nat} {l : List Tk} {v : Value} (h : Pushed lo w e 4 encT l v) : ∃ A c, v = .slice A l.length c := by
  obtain ⟨xs, T, h1, _⟩ := h
  obtain ⟨A, c, e, _⟩ := row_shape h1
  exact ⟨A, c, e⟩
theorem owns_tok {w : World} {S : Nat → Prop} {k n p : Int} {t : ByteArray} (h1 : Between64 k) (h2 : Between64 n) (h3 : Between64 p) (h4 : t.size ≤ 9223372036854775807) : Owns w S (encT ⟨k, n, p, t⟩) [.int .i64 k, .int .i64 n, .int .i64 p, .string t] :=
  owns_leaves (S := anyB) (.cons (.int _ h1) (.cons (.int _ h2) (.cons (.int _ h3) (.cons (.str _ h4) .nil)))) (by simp [encT])
theorem push_later {α : Type} {lo : Nat} {w w' : World} {e s : Nat} {enc : α → List Dt} {l : List α} {v : Value} {W : World} (h : Pushed lo w e s enc l v) (hlo : W.heap.size = lo) (hb : Later W w) (hg : w.grownBy w' v.ownBlock) : Later W w' := by
  obtain ⟨xs, T, h1, _⟩ := h
  exact Below.grown hb hg hb.size fun k hk => by have := (h1.lt k hk).1; omega


set_option maxHeartbeats 4000000 in
theorem specTokenize (s : ByteArray) (hs : s.size ≤ 1048576) (W : World) : Calls Tryd.prog 5 #[.string s] W fun r w' => TokOut W w' s r ∧ Later W w' := by
  obtain ⟨i0, hi, hz0, hz1, hz2⟩ := info_parts info_token
  by_cases hbig : 120 < s.size
  · have HV : Hid (tokensB s = ([], 120)) := by unfold Hid tokensB; rw [if_pos hbig]
    go_enter Tryd.func5, Tryd.ntmps5
    go_wp2_with fail
    go_ret2
    exact ⟨⟨_, by rw [HV.out]; rfl, by rw [HV.out]; exact tok_fresh W W (Later.rfl' _)⟩, (Later.rfl' _).alloc _⟩
  · have HT : Hid (tokensB s = tokA s 0 []) := by unfold Hid tokensB; rw [if_neg hbig]
    have hsm : s.size ≤ 120 := by omega
    skip
    clear hbig
    go_enter Tryd.func5, Tryd.ntmps5
    go_wp2_with fail
    go_loopw [4, 5] (fun o i wr => ∃ (l : List Tk) (a : Nat), i = .int .i64 (a : Int) ∧ a ≤ s.size ∧ l.length ≤ 60 ∧ Pushed W.heap.size wr 33 4 encT l o ∧ Hid (tokensB s = tokA s a l) ∧ Later W wr) (fun _ i _ => s.size - (intOf i).toNat)
    case atStart => exact ⟨[], 0, rfl, Nat.zero_le _, by simp, tok_fresh W W (Later.rfl' _), HT, (Later.rfl' _).alloc _⟩
    case round =>
      obtain ⟨l, a, rfl, ha, hl, hp, hr, hL⟩ := hrel
      obtain ⟨Ao, co, rfl⟩ := tok_shape hp
      clear HT
      have HL := Lib.hid hL; have HP := Lib.hid hp
      clear hL hp
      by_cases hlt : a < s.size
      · have hki : (a : Int) < (s.size : Int) := by omega
        by_cases h32 : s[a].toNat = 32
        · have HN : Hid (tokensB s = tokA s (a + 1) l) := by unfold Hid; rw [hr.out, tokA_space hlt h32]
          have e32 : (((s[a]'hlt).toNat : Nat) : Int) = 32 := by omega
          clear h32 hr
          go_wp2_with fail
          go_roundw
          case rel => exact ⟨l, a + 1, by go_num, by omega, hl, HP.out, HN, HL.out⟩
          case measure => simp [intOf]; omega
        · have e32 : ((((s[a]'hlt).toNat : Nat) : Int) == 32) = false := by rw [beq_eq_false_iff_ne]; omega
          have H32 := Lib.hid h32
          clear h32
          go_wp2_with fail
          refine (specNext s a hlt (by omega) _).mono ?_; rintro e0 w1 ⟨⟨k, n, q, t, L, rfl, hcase⟩, hb1⟩
          have HL1 := Lib.hid (HL.out.trans hb1)
          rcases hcase with ⟨hn, rfl⟩ | ⟨e, hn, rfl⟩
          · have HV : Hid (tokensB s = ([], (a : Int))) := by unfold Hid; rw [hr.out, tokA_none hlt H32.out hn]
            clear hn hr hb1
            go_wp2_with fail
            go_ret2
            exact ⟨⟨_, by rw [HV.out]; rfl, by rw [HV.out]; exact tok_fresh2 W _ _ HL1.out⟩, (HL1.out.alloc _).alloc _⟩
          · obtain ⟨he1, he2⟩ := nextT_end hn
            by_cases h60 : l.length = 60
            · have HV : Hid (tokensB s = ([], (a : Int))) := by unfold Hid; rw [hr.out, tokA_full hlt H32.out h60]
              have e60 : ((l.length : Int) == 60) = true := by rw [beq_iff_eq]; omega
              have hne : ((e : Int) - (a : Int) == 0) = false := by rw [beq_eq_false_iff_ne]; omega
              clear hn hr hb1 h60
              go_wp2_with fail
              go_ret2
              exact ⟨⟨_, by rw [HV.out]; rfl, by rw [HV.out]; exact tok_fresh2 W _ _ HL1.out⟩, (HL1.out.alloc _).alloc _⟩
            · have HN : Hid (tokensB s = tokA s e (l ++ [⟨k, n, q, t⟩])) := by unfold Hid; rw [hr.out, tokA_some hlt H32.out hn h60]
              have e60 : ((l.length : Int) == 60) = false := by rw [beq_eq_false_iff_ne]; omega
              obtain ⟨b1, b2, b3, b4⟩ := nextT_at hn
              dsimp only at b1 b2 b3 b4
              have hne : ((e : Int) - (a : Int) == 0) = false := by rw [beq_eq_false_iff_ne]; omega
              have hcy : Chg (fun _ => False) wr (w1.alloc (.cells #[.int .i64 k, .int .i64 n, .int .i64 q, .string t] 33)) := (hb1.trans ((Later.rfl' _).alloc _)).chg _
              have hlw := HL.out.size
              obtain ⟨xs, a1, a2, a3, a4, a5, a6⟩ := HP.out.ask encT_len hcy (fun b hb h => h) hlw (x := ⟨k, n, q, t⟩) (us := [.int .i64 k, .int .i64 n, .int .i64 q, .string t]) (owns_tok (by unfold Between64; omega) (by unfold Between64; omega) (by unfold Between64; omega) (by omega)) 33
              have hLN := fun w2 (hg : World.grownBy ((w1.alloc (.cells #[.int .i64 k, .int .i64 n, .int .i64 q, .string t] 33)).alloc (.cells #[.int .i64 k, .int .i64 n, .int .i64 q, .string t] 33)) w2 (Value.slice Ao l.length co).ownBlock) => push_later (W := W) (w' := w2) ((HP.out.later (hb1.trans ((Later.rfl' w1).alloc (.cells #[.int .i64 k, .int .i64 n, .int .i64 q, .string t] 33)))).later ((Later.rfl' (w1.alloc (.cells #[.int .i64 k, .int .i64 n, .int .i64 q, .string t] 33))).alloc (.cells #[.int .i64 k, .int .i64 n, .int .i64 q, .string t] 33))) rfl (((HL.out.trans hb1).alloc (.cells #[.int .i64 k, .int .i64 n, .int .i64 q, .string t] 33)).alloc (.cells #[.int .i64 k, .int .i64 n, .int .i64 q, .string t] 33)) hg
              rw [World.size_alloc] at a4 a6
              have A3 := Lib.hid a3; have A4 := Lib.hid a4; have A6 := Lib.hid a6; have HLN := Lib.hid hLN
              have hjn : (l.length + 1) * 40 ≤ 140737488355328 := by omega
              have hjm : l.length + 1 ≤ maxLen := by unfold maxLen; omega
              clear a3 a4 a6 hLN hcy b1 b2 b3 b4 hn hr hb1
              go_wp2_with (at_builtin; refine wpList_append_lies _ rfl (.tmp 38) (.tmp 40) 22 rfl W.heap.size 33 i0 (.agg #[.int .i64 0, .int .i64 0, .int .i64 0, .string ByteArray.empty]) 4 40 Tryd.underlying22 hi hz0 hz1 hz2 rfl (by decide) _ l.length xs rfl a1 ⟨w1.heap.size + 1, 0, none⟩ 1 1 [.int .i64 k, .int .i64 n, .int .i64 q, .string t] rfl a2 A4.out A3.out (by omega) hjm hjn a5 (w1.heap.size + 1 + 1) (by simp) ?_)
              intro gg cap w4 ho4 hg4 hat4 hlt4
              have HPN := Lib.hid (A6.out gg cap w4 ho4 hg4 hat4)
              have HLW := Lib.hid (HLN.out w4 hg4)
              clear ho4 hg4 hat4 a1 a2 a5 A3 A4 A6 HLN
              go_wp2_with fail
              go_roundw
              case rel => exact ⟨l ++ [⟨k, n, q, t⟩], e, by first | rfl | go_num, he2, by rw [List.length_append]; simp; omega, HPN.out, HN, HLW.out⟩
              case measure => simp [intOf]; omega
      · have HV : Hid (tokensB s = (l, -1)) := by unfold Hid; rw [hr.out, tokA_end hlt]
        clear hr
        go_wp2_with fail
        go_ret2
        exact ⟨⟨_, by rw [HV.out]; rfl, by rw [HV.out]; exact HP.out⟩, HL.out⟩


set_option maxHeartbeats 4000000 in
theorem implTokenize (s : ByteArray) (hs : s.size ≤ 1048576) (W : World) (hp : ParseAt W) : Calls Tryd.prog 6 #[.string s] W fun r w' => TokOut W w' s r ∧ Later W w' := by
  obtain ⟨i0, hi, hz0, hz1, hz2⟩ := info_parts info_token
  by_cases hbig : 120 < s.size
  · have HV : Hid (tokensB s = ([], 120)) := by unfold Hid tokensB; rw [if_pos hbig]
    go_enter Tryd.func6, Tryd.ntmps6
    go_wp2_with fail
    go_ret2
    exact ⟨⟨_, by rw [HV.out]; rfl, by rw [HV.out]; exact tok_nil _ _⟩, Later.rfl' _⟩
  · have HT : Hid (tokensB s = tokA s 0 []) := by unfold Hid tokensB; rw [if_neg hbig]
    have hsm : s.size ≤ 120 := by omega
    have HPA := Lib.hid hp
    clear hp
    clear hbig
    go_enter Tryd.func6, Tryd.ntmps6
    go_wp2_with fail
    go_loopw [4, 5] (fun o i wr => ∃ (l : List Tk) (a : Nat), i = .int .i64 (a : Int) ∧ a ≤ s.size ∧ l.length ≤ 60 ∧ Pushed W.heap.size wr 33 4 encT l o ∧ Hid (tokensB s = tokA s a l) ∧ Later W wr) (fun _ i _ => s.size - (intOf i).toNat)
    case atStart => exact ⟨[], 0, rfl, Nat.zero_le _, by simp, tok_fresh W W (Later.rfl' _), HT, (Later.rfl' _).alloc _⟩
    case round =>
      obtain ⟨l, a, rfl, ha, hl, hp, hr, hL⟩ := hrel
      obtain ⟨Ao, co, rfl⟩ := tok_shape hp
      clear HT
      have HL := Lib.hid hL; have HP := Lib.hid hp
      clear hL hp
      by_cases hlt : a < s.size
      · have hki : (a : Int) < (s.size : Int) := by omega
        by_cases h32 : s[a].toNat = 32
        · have HN : Hid (tokensB s = tokA s (a + 1) l) := by unfold Hid; rw [hr.out, tokA_space hlt h32]
          have e32 : (((s[a]'hlt).toNat : Nat) : Int) = 32 := by omega
          clear h32 hr
          go_wp2_with fail
          go_roundw
          case rel => exact ⟨l, a + 1, by go_num, by omega, hl, HP.out, HN, HL.out⟩
          case measure => simp [intOf]; omega
        · have e32 : ((((s[a]'hlt).toNat : Nat) : Int) == 32) = false := by rw [beq_eq_false_iff_ne]; omega
          have H32 := Lib.hid h32
          clear h32
          go_wp2_with fail
          refine (implNext s a hlt (by omega) _ (HPA.out.later HL.out)).mono ?_; rintro e0 w1 ⟨⟨k, n, q, t, E, ok, rfl, hcase⟩, hb1⟩
          have HL1 := Lib.hid (HL.out.trans hb1)
          rcases hcase with ⟨hn, rfl⟩ | ⟨e, hn, rfl, rfl⟩
          · have HV : Hid (tokensB s = ([], (a : Int))) := by unfold Hid; rw [hr.out, tokA_none hlt H32.out hn]
            clear hn hr hb1
            go_wp2_with fail
            go_ret2
            exact ⟨⟨_, by rw [HV.out]; rfl, by rw [HV.out]; exact tok_nil _ _⟩, HL1.out.alloc _⟩
          · obtain ⟨he1, he2⟩ := nextT_end hn
            by_cases h60 : l.length = 60
            · have HV : Hid (tokensB s = ([], (a : Int))) := by unfold Hid; rw [hr.out, tokA_full hlt H32.out h60]
              have e60 : ((l.length : Int) == 60) = true := by rw [beq_iff_eq]; omega
              skip
              clear hn hr hb1 h60
              go_wp2_with fail
              go_ret2
              exact ⟨⟨_, by rw [HV.out]; rfl, by rw [HV.out]; exact tok_nil _ _⟩, HL1.out.alloc _⟩
            · have HN : Hid (tokensB s = tokA s e (l ++ [⟨k, n, q, t⟩])) := by unfold Hid; rw [hr.out, tokA_some hlt H32.out hn h60]
              have e60 : ((l.length : Int) == 60) = false := by rw [beq_eq_false_iff_ne]; omega
              obtain ⟨b1, b2, b3, b4⟩ := nextT_at hn
              dsimp only at b1 b2 b3 b4
              skip
              have hcy : Chg (fun _ => False) wr (w1.alloc (.cells #[.int .i64 k, .int .i64 n, .int .i64 q, .string t] 33)) := (hb1.trans ((Later.rfl' _).alloc _)).chg _
              have hlw := HL.out.size
              obtain ⟨xs, a1, a2, a3, a4, a5, a6⟩ := HP.out.ask encT_len hcy (fun b hb h => h) hlw (x := ⟨k, n, q, t⟩) (us := [.int .i64 k, .int .i64 n, .int .i64 q, .string t]) (owns_tok (by unfold Between64; omega) (by unfold Between64; omega) (by unfold Between64; omega) (by omega)) 33
              have hLN := fun w2 (hg : World.grownBy ((w1.alloc (.cells #[.int .i64 k, .int .i64 n, .int .i64 q, .string t] 33)).alloc (.cells #[.int .i64 k, .int .i64 n, .int .i64 q, .string t] 33)) w2 (Value.slice Ao l.length co).ownBlock) => push_later (W := W) (w' := w2) ((HP.out.later (hb1.trans ((Later.rfl' w1).alloc (.cells #[.int .i64 k, .int .i64 n, .int .i64 q, .string t] 33)))).later ((Later.rfl' (w1.alloc (.cells #[.int .i64 k, .int .i64 n, .int .i64 q, .string t] 33))).alloc (.cells #[.int .i64 k, .int .i64 n, .int .i64 q, .string t] 33))) rfl (((HL.out.trans hb1).alloc (.cells #[.int .i64 k, .int .i64 n, .int .i64 q, .string t] 33)).alloc (.cells #[.int .i64 k, .int .i64 n, .int .i64 q, .string t] 33)) hg
              rw [World.size_alloc] at a4 a6
              have A3 := Lib.hid a3; have A4 := Lib.hid a4; have A6 := Lib.hid a6; have HLN := Lib.hid hLN
              have hjn : (l.length + 1) * 40 ≤ 140737488355328 := by omega
              have hjm : l.length + 1 ≤ maxLen := by unfold maxLen; omega
              clear a3 a4 a6 hLN hcy b1 b2 b3 b4 hn hr hb1
              go_wp2_with (at_builtin; refine wpList_append_lies _ rfl (.tmp 38) (.tmp 40) 22 rfl W.heap.size 33 i0 (.agg #[.int .i64 0, .int .i64 0, .int .i64 0, .string ByteArray.empty]) 4 40 Tryd.underlying22 hi hz0 hz1 hz2 rfl (by decide) _ l.length xs rfl a1 ⟨w1.heap.size + 1, 0, none⟩ 1 1 [.int .i64 k, .int .i64 n, .int .i64 q, .string t] rfl a2 A4.out A3.out (by omega) hjm hjn a5 (w1.heap.size + 1 + 1) (by simp) ?_)
              intro gg cap w4 ho4 hg4 hat4 hlt4
              have HPN := Lib.hid (A6.out gg cap w4 ho4 hg4 hat4)
              have HLW := Lib.hid (HLN.out w4 hg4)
              clear ho4 hg4 hat4 a1 a2 a5 A3 A4 A6 HLN
              go_wp2_with fail
              go_roundw
              case rel => exact ⟨l ++ [⟨k, n, q, t⟩], e, by first | rfl | go_num, he2, by rw [List.length_append]; simp; omega, HPN.out, HN, HLW.out⟩
              case measure => simp [intOf]; omega
      · have HV : Hid (tokensB s = (l, -1)) := by unfold Hid; rw [hr.out, tokA_end hlt]
        clear hr
        go_wp2_with fail
        go_ret2
        exact ⟨⟨_, by rw [HV.out]; rfl, by rw [HV.out]; exact HP.out⟩, HL.out⟩

end Go.Proofs.YtghemlokpfipoaaDoor
