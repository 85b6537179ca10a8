/-
  Draws of tokens: l9Tokens: the walk.
-/
import Derived.Test.YtghemlokpfipoaaDoorYTD1
namespace Go.Proofs.YtghemlokpfipoaaDoor
open Go.ChangeShapes Go.WideShapes Go.ChangeAt Go.RowKit
set_option linter.unusedVariables false
set_option linter.unusedSimpArgs false
set_option maxRecDepth 100000

theorem writeAt_endT (us vs : List Value) (h : us.length = vs.length) : ∀ xs : List Value, writeAt (xs ++ us) xs.length vs = xs ++ vs := by
  intro xs
  apply List.ext_getElem?
  intro i
  by_cases h1 : i < xs.length
  · rw [writeAt_low _ _ _ _ h1, List.getElem?_append_left h1, List.getElem?_append_left h1]
  · obtain ⟨j, rfl⟩ : ∃ j, i = xs.length + j := ⟨i - xs.length, by omega⟩
    by_cases h2 : j < vs.length
    · rw [writeAt_at _ _ _ _ (by rw [List.length_append]; omega) h2, List.getElem?_append_right (by omega), Nat.add_sub_cancel_left]
    · rw [List.getElem?_eq_none (by rw [length_writeAt, List.length_append]; omega), List.getElem?_eq_none (by rw [List.length_append]; omega)]
theorem flatT_snoc (l : List Tk) (t : Tk) : (l ++ [t]).flatMap cellsT = l.flatMap cellsT ++ cellsT t := by rw [List.flatMap_append]; simp
theorem TokRow.last {lo : Nat} {w : World} {l : List Tk} {x y : Tk} {gb cap : Nat} (h : TokRow lo w (l ++ [x]) (.slice (some ⟨gb, 0, none⟩) (l.length + 1) cap)) (hy : SmallTk y) :
    (∃ u0 u1 u2 u3, w.cell? ⟨gb, l.length * 4, none⟩ = some u0 ∧ w.cell? ⟨gb, l.length * 4 + 1, none⟩ = some u1 ∧ w.cell? ⟨gb, l.length * 4 + 2, none⟩ = some u2 ∧ w.cell? ⟨gb, l.length * 4 + 3, none⟩ = some u3) ∧ (∀ j, w.frozen? ⟨gb, j, none⟩ = false) ∧ gb < w.heap.size ∧ lo ≤ gb ∧
      TokRow lo (setFrom w gb (l.length * 4) (cellsT y)) (l ++ [y]) (.slice (some ⟨gb, 0, none⟩) (l.length + 1) cap) := by
  obtain ⟨h1, h2⟩ := h
  rw [List.length_append] at h1
  have hl := h1.1
  have hg := h1.lt gb rfl
  have hc := fun j (hj : j < l.length * 4 + 4) => (⟨_, (h1.cellAt j (show j < (l.length + 1) * 4 by omega)).trans (List.getElem?_eq_getElem (by rw [hl]; simp; omega))⟩ : ∃ u, w.cell? ⟨gb, j, none⟩ = some u)
  obtain ⟨u0, e0⟩ := hc (l.length * 4) (by omega)
  obtain ⟨u1, e1⟩ := hc (l.length * 4 + 1) (by omega)
  obtain ⟨u2, e2⟩ := hc (l.length * 4 + 2) (by omega)
  obtain ⟨u3, e3⟩ := hc (l.length * 4 + 3) (by omega)
  refine ⟨⟨u0, u1, u2, u3, e0, e1, e2, e3⟩, h1.frozenAt, hg.2, hg.1, ?_, fun t ht => ?_⟩
  · have hset := own_setFrom (cellsT y) w _ (l.length * 4) h1
    have hw := writeAt_endT (cellsT x) (cellsT y) rfl (l.flatMap cellsT)
    rw [cellsT_len, ← flatT_snoc, ← flatT_snoc] at hw
    rw [hw] at hset
    rw [List.length_append]
    exact hset
  · rcases List.mem_append.1 ht with ht | ht
    · exact h2 t (List.mem_append_left _ ht)
    · rw [List.mem_singleton.1 ht]; exact hy
theorem tok_a : SmallTk ⟨1, 0, 0, ⟨#[97]⟩⟩ := ⟨by decide, by decide, rfl, by decide⟩
def ToksR (g : Nat) (W w' : World) (r : Ending) : Prop := (∃ l v, r = .returned v ∧ TokRow W.heap.size w' l v ∧ l.length ≤ 61) ∧ CurAt w' g ∧ Chg (onlyB g) W w'


set_option maxHeartbeats 8000000 in
theorem drawTokens (g : Nat) (W : World) (hc : CurAt W g) : Calls Tryd.prog 34 #[.pointer (some ⟨g, 0, none⟩)] W fun r w' => ToksR g W w' r := by
  have hlt := hc.lt
  have HCU := Lib.hid (hc.later ((Later.rfl' W).alloc (.cells #[] 33)))
  obtain ⟨i0, hi, hz0, hz1, hz2⟩ := info_parts info_token
  clear hc
  go_enter Tryd.func34, Tryd.ntmps34
  go_wp2_with fail
  refine (drawBelow 9 g (by omega) (by omega) _ HCU.out).mono ?_; rintro e w1 ⟨⟨m, hm, rfl⟩, hcu, hch⟩
  have hp0 : TokRow W.heap.size w1 [] (.slice (some ⟨W.heap.size, 0, none⟩) 0 0) :=
    (show TokRow W.heap.size (W.alloc (.cells #[] 33)) [] (.slice (some ⟨W.heap.size, 0, none⟩) 0 0) from ⟨World.ownsRow_made W #[] 0 (Nat.le_refl _) (Nat.zero_le _) rfl, fun t ht => by simp at ht⟩).chg hch fun b hb h => by unfold onlyB at h; omega
  have hch0 : Chg (freshB g W.heap.size) W w1 := (((Later.rfl' W).alloc (.cells #[] 33)).chg _).trans (hch.more fun k hk => .inl hk)
  have HP0 := Lib.hid hp0; have H10 := Lib.hid hcu; have H20 := Lib.hid hch0
  clear hp0 hcu hch hch0 HCU
  go_wp2_with fail
  refine (drawOnce 20 g (by omega) (by omega) _ H10.out).mono ?_; rintro e w1b ⟨⟨q, rfl⟩, hcu, hch⟩
  have HP1 := Lib.hid (HP0.out.chg hch fun b hb h => by unfold onlyB at h; omega)
  have H11 := Lib.hid hcu; have H21 := Lib.hid (H20.out.trans (hch.more (S' := freshB g W.heap.size) fun k hk => .inl hk))
  clear hcu hch HP0 H10 H20
  cases q with
  | false =>
    have HP := HP1; have H1 := H11; have H2 := H21
    have hbig : decide ((20 : Int) < (m : Int)) = false := decide_eq_false (by omega)
    clear HP1 H11 H21
    go_wp2_with fail
    go_loopw [3, 5] (fun o i wr => ∃ (l : List Tk), i = .int .i64 (l.length : Int) ∧ l.length ≤ m ∧ TokRow W.heap.size wr l o ∧ CurAt wr g ∧ Chg (freshB g W.heap.size) W wr) (fun _ i _ => m - (intOf i).toNat)
    case atStart => exact ⟨[], rfl, Nat.zero_le _, HP.out, H1.out, H2.out⟩
    case round =>
      obtain ⟨l, rfl, hj, hp, hcu, hch⟩ := hrel
      clear HP H1 H2
      by_cases hlt2 : l.length < m
      · have hki : (l.length : Int) < (m : Int) := by omega
        have hsz := hch.size
        have HP := Lib.hid hp; have HCU := Lib.hid hcu; have HCH := Lib.hid hch
        clear hp hcu hch
        go_wp2_with fail
        refine (drawToken g _ HCU.out).mono ?_; rintro e w2 ⟨⟨t, rfl, ht1, ht2, ht3, ht4⟩, hcu, hch⟩
        have HT : Hid (SmallTk t) := ⟨ht1, ht2, ht3, ht4⟩
        have hp2 := HP.out.chg hch fun b hb h => by unfold onlyB at h; omega
        have HP2 := Lib.hid hp2
        have hown := Lib.hid (own_later hp2.1 ((Later.rfl' w2).alloc (.cells (cellsT t).toArray 33)))
        have HC2 := Lib.hid hcu; have HH2 := Lib.hid (HCH.out.trans (hch.more (S' := freshB g W.heap.size) fun k hk => .inl hk))
        have hsz2 := hch.size
        have hjm : l.length + 1 ≤ maxLen := by unfold maxLen; omega
        have hjn : (l.length + 1) * 40 ≤ 140737488355328 := by omega
        have hlow := fun b (hb : some b = Value.ownBlock _) => (hown.out.lt b hb.symm).1
        have HLOW := Lib.hid hlow
        have HNEW : Hid (∀ (j : Nat) (u : Value), (cellsT t)[j]? = some u → (w2.alloc (.cells (cellsT t).toArray 33)).cell? ((⟨w2.heap.size, 0, none⟩ : Addr).add j) = some u) := World.news_of_block (heap_alloc_new w2 _)
        clear hcu hch hp2 ht1 ht2 ht3 ht4 hlow HP HCU HCH
        go_wp2_with (at_builtin; refine wpList_append_lies _ rfl (.tmp 19) (.tmp 22) 22 rfl W.heap.size 33 i0 (.agg #[.int .i64 0, .int .i64 0, .int .i64 0, .string ByteArray.empty]) 4 40 Tryd.underlying22 hi hz0 hz1 hz2 rfl (by decide) _ l.length _ rfl hown.out ⟨w2.heap.size, 0, none⟩ 1 1 (cellsT t) rfl rfl HNEW.out (by simp [cellsT, Value.oneCell']) (by omega) hjm hjn (by rw [World.size_alloc]; omega) (w2.heap.size + 1) (by simp) ?_)
        intro gg cap w4 ho4 hg4 hat4 hlt4
        have hg5 := chg_grown hg4
        have HP4 : Hid (TokRow W.heap.size w4 (l ++ [t]) (.slice (some ⟨gg, 0, none⟩) (l.length + 1) cap)) := ⟨by rw [List.length_append, flatT_snoc]; exact ho4, fun y hy => by
          rcases List.mem_append.1 hy with h | h
          · exact HP2.out.2 y h
          · rw [List.mem_singleton.1 h]; exact HT.out⟩
        have HC4 := Lib.hid ((HC2.out.later ((Later.rfl' _).alloc _)).chg hg5 fun b hb he => by have := HLOW.out b he; omega)
        have HH4 := Lib.hid ((HH2.out.trans (((Later.rfl' w2).alloc _).chg _)).trans (hg5.more fun k hk => .inr (HLOW.out k hk)))
        have hz4 := HH4.out.size
        clear ho4 hg4 hat4 hg5 HP2 hown HC2 HH2 HLOW HNEW
        go_wp2_with fail
        go_roundw
        case rel => exact ⟨l ++ [t], by rw [List.length_append]; go_num, by rw [List.length_append]; simp; omega, HP4.out, HC4.out, HH4.out⟩
        case measure => simp [intOf]; omega
      · have hcc := chg_only hch
        have HP := Lib.hid hp; have HC := Lib.hid hcu; have HH := Lib.hid hcc
        clear hp hcu hch hcc
        go_wp2_with fail
        go_ret
        exact ⟨⟨l, _, rfl, HP.out, by omega⟩, HC.out, HH.out⟩
  | true =>
    go_wp2_with fail
    refine (drawBelow 4 g (by omega) (by omega) _ H11.out).mono ?_; rintro e w1c ⟨⟨m', hm', rfl⟩, hcu, hch⟩
    have HP := Lib.hid (HP1.out.chg hch fun b hb h => by unfold onlyB at h; omega)
    have H1 := Lib.hid hcu; have H2 := Lib.hid (H21.out.trans (hch.more (S' := freshB g W.heap.size) fun k hk => .inl hk))
    clear hcu hch HP1 H11 H21 hm
    obtain ⟨m, hmm⟩ : ∃ m : Nat, m = 58 + m' := ⟨_, rfl⟩
    have hmi : (58 : Int) + (m' : Int) = (m : Int) := by omega
    have hm : m ≤ 61 := by omega
    have hbig : decide ((20 : Int) < (m : Int)) = true := decide_eq_true (by omega)
    have hw : IntKind.i64.wrap (m : Int) = (m : Int) := IntWalk.i64_in _ (by omega)
    clear hmm hm'
    go_wp2_with fail
    go_loopw [3, 5] (fun o i wr => ∃ (l : List Tk), i = .int .i64 (l.length : Int) ∧ l.length ≤ m ∧ TokRow W.heap.size wr l o ∧ CurAt wr g ∧ Chg (freshB g W.heap.size) W wr) (fun _ i _ => m - (intOf i).toNat)
    case atStart => exact ⟨[], rfl, Nat.zero_le _, HP.out, H1.out, H2.out⟩
    case round =>
      obtain ⟨l, rfl, hj, hp, hcu, hch⟩ := hrel
      clear HP H1 H2
      by_cases hlt2 : l.length < m
      · have hki : (l.length : Int) < (m : Int) := by omega
        have hsz := hch.size
        have HP := Lib.hid hp; have HCU := Lib.hid hcu; have HCH := Lib.hid hch
        clear hp hcu hch
        go_wp2_with fail
        refine (drawToken g _ HCU.out).mono ?_; rintro e w2 ⟨⟨t, rfl, ht1, ht2, ht3, ht4⟩, hcu, hch⟩
        have HT : Hid (SmallTk t) := ⟨ht1, ht2, ht3, ht4⟩
        have hp2 := HP.out.chg hch fun b hb h => by unfold onlyB at h; omega
        have HP2 := Lib.hid hp2
        have hown := Lib.hid (own_later hp2.1 ((Later.rfl' w2).alloc (.cells (cellsT t).toArray 33)))
        have HC2 := Lib.hid hcu; have HH2 := Lib.hid (HCH.out.trans (hch.more (S' := freshB g W.heap.size) fun k hk => .inl hk))
        have hsz2 := hch.size
        have hjm : l.length + 1 ≤ maxLen := by unfold maxLen; omega
        have hjn : (l.length + 1) * 40 ≤ 140737488355328 := by omega
        have hlow := fun b (hb : some b = Value.ownBlock _) => (hown.out.lt b hb.symm).1
        have HLOW := Lib.hid hlow
        have HNEW : Hid (∀ (j : Nat) (u : Value), (cellsT t)[j]? = some u → (w2.alloc (.cells (cellsT t).toArray 33)).cell? ((⟨w2.heap.size, 0, none⟩ : Addr).add j) = some u) := World.news_of_block (heap_alloc_new w2 _)
        clear hcu hch hp2 ht1 ht2 ht3 ht4 hlow HP HCU HCH
        go_wp2_with (at_builtin; refine wpList_append_lies _ rfl (.tmp 19) (.tmp 22) 22 rfl W.heap.size 33 i0 (.agg #[.int .i64 0, .int .i64 0, .int .i64 0, .string ByteArray.empty]) 4 40 Tryd.underlying22 hi hz0 hz1 hz2 rfl (by decide) _ l.length _ rfl hown.out ⟨w2.heap.size, 0, none⟩ 1 1 (cellsT t) rfl rfl HNEW.out (by simp [cellsT, Value.oneCell']) (by omega) hjm hjn (by rw [World.size_alloc]; omega) (w2.heap.size + 1) (by simp) ?_)
        intro gg cap w4 ho4 hg4 hat4 hlt4
        have hg5 := chg_grown hg4
        have HP4 : Hid (TokRow W.heap.size w4 (l ++ [t]) (.slice (some ⟨gg, 0, none⟩) (l.length + 1) cap)) := ⟨by rw [List.length_append, flatT_snoc]; exact ho4, fun y hy => by
          rcases List.mem_append.1 hy with h | h
          · exact HP2.out.2 y h
          · rw [List.mem_singleton.1 h]; exact HT.out⟩
        have HC4 := Lib.hid ((HC2.out.later ((Later.rfl' _).alloc _)).chg hg5 fun b hb he => by have := HLOW.out b he; omega)
        have HH4 := Lib.hid ((HH2.out.trans (((Later.rfl' w2).alloc _).chg _)).trans (hg5.more fun k hk => .inr (HLOW.out k hk)))
        have hz4 := HH4.out.size
        clear ho4 hg4 hat4 hg5 HP2 hown HC2 HH2 HLOW HNEW
        have hl9 := HP4.out.last tok_a
        obtain ⟨⟨u0, u1, u2, u3, e0, e1, e2, e3⟩, ef, eg, el, hT9⟩ := hl9
        have ef0 := ef (l.length * 4); have ef1 := ef (l.length * 4 + 1); have ef2 := ef (l.length * 4 + 2); have ef3 := ef (l.length * 4 + 3)
        have hl0 : (0 : Int) ≤ (l.length : Int) := by omega
        have hl1 : (l.length : Int) < (l.length : Int) + 1 := by omega
        have HT9 : Hid (TokRow W.heap.size ((((w4.setCell ⟨gg, l.length * 4, none⟩ (.int .i64 1)).setCell ⟨gg, l.length * 4 + 1, none⟩ (.int .i64 0)).setCell ⟨gg, l.length * 4 + 2, none⟩ (.int .i64 0)).setCell ⟨gg, l.length * 4 + 3, none⟩ (.string ⟨#[97]⟩)) (l ++ [⟨1, 0, 0, ⟨#[97]⟩⟩]) (.slice (some ⟨gg, 0, none⟩) (l.length + 1) cap)) := hT9
        have cg : Chg (fun b => b = gg) w4 ((((w4.setCell ⟨gg, l.length * 4, none⟩ (.int .i64 1)).setCell ⟨gg, l.length * 4 + 1, none⟩ (.int .i64 0)).setCell ⟨gg, l.length * 4 + 2, none⟩ (.int .i64 0)).setCell ⟨gg, l.length * 4 + 3, none⟩ (.string ⟨#[97]⟩)) := chg_setFrom (g := gg) (cellsT ⟨1, 0, 0, ⟨#[97]⟩⟩) w4 (l.length * 4)
        have HC9 := Lib.hid (HC4.out.chg cg fun b hb h => by omega)
        have HH9 := Lib.hid (HH4.out.trans (cg.more fun k hk => .inr (by omega)))
        clear hT9 ef cg HP4 HC4 HH4
        go_wp2_with fail
        go_roundw
        case rel => exact ⟨l ++ [⟨1, 0, 0, ⟨#[97]⟩⟩], by rw [List.length_append]; go_num, by rw [List.length_append]; simp; omega, HT9.out, HC9.out, HH9.out⟩
        case measure => simp [intOf]; omega
      · have hcc := chg_only hch
        have HP := Lib.hid hp; have HC := Lib.hid hcu; have HH := Lib.hid hcc
        clear hp hcu hch hcc
        go_wp2_with fail
        go_ret
        exact ⟨⟨l, _, rfl, HP.out, by omega⟩, HC.out, HH.out⟩

end Go.Proofs.YtghemlokpfipoaaDoor
