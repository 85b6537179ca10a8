/-
  The law FnTokens: its walk.
-/
import Derived.Test.YtghemlokpfipoaaDoorYTD3
namespace Go.Proofs.YtghemlokpfipoaaDoor
open Go.ChangeShapes Go.WideShapes Go.ChangeAt Go.RowKit
set_option linter.unusedVariables false
set_option linter.unusedSimpArgs false
set_option maxRecDepth 100000


theorem implIsKeywordT (k n a : Int) (t : ByteArray) (W : World) : Calls Tryd.prog 15 #[.agg #[.int .i64 k, .int .i64 n, .int .i64 a, .string t], .string t] W fun r w' => r = .returned (.bool (k == 1)) ∧ Later W w' := by
  obtain ⟨q, hq⟩ : ∃ q, q = (k == 1) := ⟨_, rfl⟩
  rw [← hq]
  cases q with
  | true =>
    have hk := hq.symm
    clear hq
    go_enter Tryd.func15, Tryd.ntmps15
    go_wp2_with fail
    go_ret
    exact ⟨rfl, (Later.rfl' _).alloc _⟩
  | false =>
    have hk := hq.symm
    clear hq
    go_enter Tryd.func15, Tryd.ntmps15
    go_wp2_with fail
    go_ret
    exact ⟨rfl, (Later.rfl' _).alloc _⟩


theorem implIsSymbolT (k n a : Int) (t : ByteArray) (W : World) : Calls Tryd.prog 14 #[.agg #[.int .i64 k, .int .i64 n, .int .i64 a, .string t], .string t] W fun r w' => r = .returned (.bool (k == 4)) ∧ Later W w' := by
  obtain ⟨q, hq⟩ : ∃ q, q = (k == 4) := ⟨_, rfl⟩
  rw [← hq]
  cases q with
  | true =>
    have hk := hq.symm
    clear hq
    go_enter Tryd.func14, Tryd.ntmps14
    go_wp2_with fail
    go_ret
    exact ⟨rfl, (Later.rfl' _).alloc _⟩
  | false =>
    have hk := hq.symm
    clear hq
    go_enter Tryd.func14, Tryd.ntmps14
    go_wp2_with fail
    go_ret
    exact ⟨rfl, (Later.rfl' _).alloc _⟩

/-- A token in a variable and one in a row, behind a world. -/
abbrev Held44' (X w : World) (g b o : Nat) (c0 c1 c2 c3 : Value) : Prop := Later X w ∧ w.cell? ⟨g, 0, none⟩ = some c0 ∧ w.cell? ⟨g, 1, none⟩ = some c1 ∧ w.cell? ⟨g, 2, none⟩ = some c2 ∧ w.cell? ⟨g, 3, none⟩ = some c3 ∧
  w.cell? ⟨b, o, none⟩ = some c0 ∧ w.cell? ⟨b, o + 1, none⟩ = some c1 ∧ w.cell? ⟨b, o + 2, none⟩ = some c2 ∧ w.cell? ⟨b, o + 3, none⟩ = some c3
abbrev Held44 (X : World) (g b o : Nat) (c0 c1 c2 c3 : Value) : Prop := Held44' X X g b o c0 c1 c2 c3
theorem Held44.on {X w w' : World} {g b o : Nat} {c0 c1 c2 c3 : Value} (hb : Later w w') (h : Held44' X w g b o c0 c1 c2 c3) : Held44' X w' g b o c0 c1 c2 c3 :=
  ⟨h.1.trans hb, kept_cell hb h.2.1, kept_cell hb h.2.2.1, kept_cell hb h.2.2.2.1, kept_cell hb h.2.2.2.2.1, kept_cell hb h.2.2.2.2.2.1, kept_cell hb h.2.2.2.2.2.2.1, kept_cell hb h.2.2.2.2.2.2.2.1, kept_cell hb h.2.2.2.2.2.2.2.2⟩
theorem again_at {l l' : List Tk} (h : l'.map noAt = l.map noAt) {i : Nat} (hi : i < l.length) (hi' : i < l'.length) : l'[i].kind = l[i].kind ∧ l'[i].n = l[i].n ∧ l'[i].text = l[i].text := by
  have h2 : (l'.map noAt)[i]? = (l.map noAt)[i]? := by rw [h]
  rw [List.getElem?_map, List.getElem?_map, List.getElem?_eq_getElem hi, List.getElem?_eq_getElem hi'] at h2
  simp only [Option.map_some, Option.some.injEq, noAt, Tk.mk.injEq] at h2
  exact ⟨h2.1, h2.2.1, h2.2.2.2⟩
theorem good_cost {s : ByteArray} (hs : s.size ≤ 10100) {l : List Tk} (h : ∀ t ∈ l, GoodT s t) : l.length + sumN Tk.cost l ≤ 10101 * l.length := by
  induction l with
  | nil => simp [sumN]
  | cons t l ih =>
    have h1 := ih fun y hy => h y (List.mem_cons_of_mem _ hy)
    obtain ⟨_, _, _, _, _, _, _, _, h2⟩ := good_place (h t List.mem_cons_self)
    unfold sumN at h1 ⊢
    simp only [List.map_cons, List.sum_cons, List.length_cons]
    have : Tk.cost t = t.text.size := rfl
    omega
theorem good_join {s : ByteArray} (hs : s.size ≤ 10100) {l : List Tk} (h : ∀ t ∈ l, GoodT s t) (hl : l.length ≤ 60) : (⟨(joinB (l.map tkB) ⟨#[32]⟩).toArray⟩ : ByteArray).size ≤ 1048576 := by
  have h1 := joinB_le (l.map tkB) ⟨#[32]⟩
  have h2 := costS_tk l fun d hd => by obtain ⟨_, _, _, _, _, _, _, h3, _⟩ := good_place (h d hd); exact h3
  have h3 := good_cost hs h
  unfold costS at h2
  rw [List.length_map] at h1 h2
  rw [show (⟨#[32]⟩ : ByteArray).size = 1 from rfl] at h1
  show (joinB (l.map tkB) ⟨#[32]⟩).toArray.size ≤ 1048576
  rw [List.size_toArray]
  omega
theorem pushed_sl {lo : Nat} {w : World} {l : List Tk} {v : Value} (h : Pushed lo w 33 4 encT l v) : SlAt w anyB 4 encT l v := (h.own encT_len).at_.any
set_option maxHeartbeats 40000000 in
theorem walk_FnTokens (v : Value) (n : Nat) (w : World) (h : BytesAt w v n) (hp : ParseAt w) : Calls Tryd.prog 4 #[v] w fun r w' => r = .returned (.bool true) ∧ Later w w' := by
  by_cases hbig : 1048576 < n
  · have C0 := bigBytes v n w h
    rw [show decide (1048576 < n) = true by simp; omega] at C0
    have HB := Lib.hid C0
    clear C0 hbig h hp
    go_enter Tryd.func4, Tryd.ntmps4
    go_wp2_with fail
    refine HB.out.mono ?_; rintro e w1 ⟨rfl, hb1⟩
    go_wp2_with fail
    go_ret
    exact ⟨rfl, hb1⟩
  · have C0 := bigBytes v n w h
    rw [show decide (1048576 < n) = false by simp; omega] at C0
    have hle : n ≤ 1048576 := by omega
    have C1 := fun W (hW : Later w W) => drawTokenize v n W (BytesAt.later h hW) hle
    have HB := Lib.hid C0; have HD := Lib.hid C1
    have HP := Lib.hid (fun W (hW : Later w W) => hp.later hW)
    clear C0 C1 hbig hle h hp
    go_enter Tryd.func4, Tryd.ntmps4
    go_wp2_with fail
    refine HB.out.mono ?_; rintro e w1 ⟨rfl, hb⟩
    have L := Lib.hid hb; clear hb HB
    go_wp2_with fail
    refine (HD.out _ L.out).mono ?_; rintro e w2 ⟨⟨s, hs, rfl⟩, hb⟩
    replace L := Lib.hid (L.out.trans hb); clear hb HD
    obtain ⟨hgood, hl60, hend⟩ := tokens_out s
    have hag := tokens_again s
    have CI := fun W (hW : Later w W) => implTokenize s (by omega) W (HP.out W hW)
    have CS := fun W => specTokenize s (by omega) W
    unfold TokOut at CI CS
    have hjs := good_join hs hgood hl60
    have hgc := good_cost hs hgood
    obtain ⟨T, hT⟩ : ∃ T, T = (tokensB s).1 := ⟨_, rfl⟩
    obtain ⟨B, hB⟩ : ∃ B, B = (tokensB s).2 := ⟨_, rfl⟩
    obtain ⟨J, hJ⟩ : ∃ J, J = (⟨(joinB ((tokensB s).1.map tkB) ⟨#[32]⟩).toArray⟩ : ByteArray) := ⟨_, rfl⟩
    rw [← hJ] at hjs hag
    have HJE : Hid (J = (⟨(joinB (T.map tkB) ⟨#[32]⟩).toArray⟩ : ByteArray)) := by unfold Hid; rw [hT]; exact hJ
    simp only [← hT, ← hB] at CI CS hgood hl60 hend hag hgc
    have HI := Lib.hid CI; have HSP := Lib.hid CS; have HGD := Lib.hid hgood; have HAG := Lib.hid hag; have HJS := Lib.hid hjs; have HGC := Lib.hid hgc; have HS := Lib.hid hs
    clear CI CS hgood hag hT hB hJ hjs hgc
    go_wp2_with fail
    refine (HI.out _ L.out).mono ?_; rintro e w3 ⟨⟨v1, rfl, hx⟩, hb⟩
    have A := Lib.hid (pushed_sl hx)
    replace L := Lib.hid (L.out.trans hb)
    clear hx hb HI
    go_wp2_with fail
    refine (HSP.out _).mono ?_; rintro e w4 ⟨⟨v2, rfl, hx⟩, hb⟩
    replace L := Lib.hid (L.out.trans hb); replace A := Lib.hid (A.out.later hb)
    clear hx hb HSP
    obtain ⟨A1, c1, rfl, hc1, hc2⟩ := sl_parts A.out
    rcases hend with hend | ⟨hend, hnil⟩
    · subst hend
      go_wp2_with fail
      go_loopw [8] (fun i wr => ∃ j : Nat, i = .int .i64 (j : Int) ∧ j ≤ T.length ∧ Later w4 wr) (fun i _ => T.length - (intOf i).toNat)
      case atStart => exact ⟨0, rfl, Nat.zero_le _, Later.rfl' _⟩
      case round =>
        obtain ⟨j, rfl, hj, hw⟩ := hrel
        have HW := Lib.hid hw
        clear hw
        by_cases hlt : j < T.length
        · have hki : (j : Int) < (T.length : Int) := by omega
          have hk0 : (0 : Int) ≤ (j : Int) := by omega
          have hgd := HGD.out _ (List.getElem_mem hlt)
          obtain ⟨b, off, rfl, hbl, _, q0, q1, q2, q3, _⟩ := (A.out.later HW.out).tokAt hlt
          obtain ⟨t, ht⟩ : ∃ t, t = T[j] := ⟨_, rfl⟩
          rw [← ht] at hgd q0 q1 q2 q3
          clear ht
          obtain ⟨k, m, at', tx⟩ := t
          obtain ⟨a, e, ha, hae, hes, hel, hex, hbn, hts⟩ := good_place hgd
          simp only at ha hbn hts q0 q1 q2 q3
          subst ha
          have CF := implFormatTk k m (a : Int) tx hbn (by omega) wr (HP.out wr (L.out.trans HW.out)).tab
          obtain ⟨F, hF⟩ : ∃ F, F = tkB ⟨k, m, (a : Int), tx⟩ := ⟨_, rfl⟩
          rw [← hF] at hel hex CF
          have HCF := Lib.hid CF
          have hsum : (a : Int) + (F.size : Int) = (e : Int) := by omega
          have hei : (e : Int) ≤ (s.size : Int) := by omega
          have hai : (0 : Int) ≤ (a : Int) := by omega
          have haei : (a : Int) ≤ (e : Int) := by omega
          have hwr : IntKind.i64.wrap (e : Int) = (e : Int) := IntWalk.i64_in _ (by omega)
          have hwa : IntKind.i64.wrap (a : Int) = (a : Int) := IntWalk.i64_in _ (by omega)
          clear hF CF hgd hbn hts hel
          go_wp2_with fail
          refine HCF.out.mono ?_; rintro r w5 ⟨rfl, hb⟩
          have c2 := kept_cell hb q2
          replace HW := Lib.hid (HW.out.trans hb)
          clear hb q0 q1 q2 q3 HCF
          go_wp2_with fail
          go_quiet (fail)
          clear c2
          go_wp2_with fail
          go_roundw
          case rel => exact ⟨j + 1, by go_num, by omega, HW.out.trans (Later.drewN _ _)⟩
          case measure => simp [intOf]; omega
        · have : j = T.length := by omega
          subst this
          have CF := implFormatTokens T wr (HP.out wr (L.out.trans HW.out)).tab anyB _ (A.out.later HW.out) (by have := HGC.out; omega)
          rw [← HJE.out] at CF
          have HCF := Lib.hid CF
          have HTJ := Lib.hid (fun W (hW : Later w W) => implTokenize J HJS.out W (HP.out W hW))
          clear CF
          go_wp2_with fail
          refine HCF.out.mono ?_; rintro r w5 ⟨rfl, hb⟩
          replace L := Lib.hid (L.out.trans (HW.out.trans hb))
          replace A := Lib.hid (A.out.later (HW.out.trans hb))
          clear hb HW HCF
          go_wp2_with fail
          refine (HTJ.out _ L.out).mono ?_; rintro r w6 ⟨⟨v3, rfl, hx⟩, hb⟩
          replace L := Lib.hid (L.out.trans hb)
          replace A := Lib.hid (A.out.later hb)
          have AG := Lib.hid (pushed_sl hx)
          clear hx hb HTJ
          rcases HAG.out with ⟨hJ, hTJ⟩ | ⟨hJ, l', hTJ, hno⟩
          · have e2 : (tokensB J).2 = 120 := by rw [hTJ]
            rw [e2]
            have hJi : (120 : Int) < (J.size : Int) := by omega
            clear hTJ e2
            go_wp2_with fail
            go_ret
            exact ⟨rfl, L.out⟩
          · have e1 : (tokensB J).1 = l' := by rw [hTJ]
            have e2 : (tokensB J).2 = -1 := by rw [hTJ]
            rw [e1] at AG
            rw [e2]
            have hlen : l'.length = T.length := by have := congrArg List.length hno; simpa using this
            have HNO := Lib.hid hno
            have hJi : (J.size : Int) ≤ 120 := by omega
            obtain ⟨A3, c3, rfl, hc3, hc4⟩ := sl_parts AG.out
            have hlen2 : (l'.length : Int) = (T.length : Int) := by omega
            clear hTJ e1 e2 hno
            go_wp2_with fail
            go_loopw [13] (fun i wr => ∃ j : Nat, i = .int .i64 (j : Int) ∧ j ≤ T.length ∧ Later w6 wr) (fun i _ => T.length - (intOf i).toNat)
            case atStart => exact ⟨0, rfl, Nat.zero_le _, Later.rfl' _⟩
            case round =>
              obtain ⟨j, rfl, hj, hw⟩ := hrel
              have HW := Lib.hid hw
              clear hw
              by_cases hlt : j < T.length
              · have hki : (j : Int) < (T.length : Int) := by omega
                have hk0 : (0 : Int) ≤ (j : Int) := by omega
                have hlt' : j < l'.length := by omega
                obtain ⟨b, off, rfl, hbl, _, q0, q1, q2, q3, _⟩ := (A.out.later HW.out).tokAt hlt
                obtain ⟨b', off', rfl, hbl', _, p0, p1, p2, p3, _⟩ := (AG.out.later HW.out).tokAt hlt'
                obtain ⟨g1, g2, g3⟩ := again_at HNO.out hlt hlt'
                rw [g1] at p0
                rw [g2] at p1
                rw [g3] at p3
                obtain ⟨k, hk⟩ : ∃ k, k = T[j].kind := ⟨_, rfl⟩
                obtain ⟨m, hm⟩ : ∃ m, m = T[j].n := ⟨_, rfl⟩
                obtain ⟨a, ha⟩ : ∃ a, a = T[j].at_ := ⟨_, rfl⟩
                obtain ⟨a', ha'⟩ : ∃ a, a = l'[j].at_ := ⟨_, rfl⟩
                obtain ⟨tx, htx⟩ : ∃ t, t = T[j].text := ⟨_, rfl⟩
                rw [← hk] at p0 q0
                rw [← hm] at p1 q1
                rw [← ha] at q2
                rw [← ha'] at p2
                rw [← htx] at p3 q3
                clear hk hm ha ha' htx g1 g2 g3
                go_wp2_with fail
                have HX0 : Hid (Held44 (wr.alloc (.cells #[.int .i64 k, .int .i64 m, .int .i64 a, .string tx] 33)) wr.heap.size b (off + j * 4) (.int .i64 k) (.int .i64 m) (.int .i64 a) (.string tx)) := by
                  obtain ⟨h0, h1, h2, h3, _⟩ := box_tok (box_alloc wr #[.int .i64 k, .int .i64 m, .int .i64 a, .string tx] 33)
                  have hl := (Later.rfl' wr).alloc (.cells #[.int .i64 k, .int .i64 m, .int .i64 a, .string tx] 33)
                  exact ⟨Later.rfl' _, h0, h1, h2, h3, kept_cell hl q0, kept_cell hl q1, kept_cell hl q2, kept_cell hl q3⟩
                clear q0 q1 q2 q3 p0 p1 p2 p3
                go_region_held3 (fun w' => Later (wr.alloc (.cells #[.int .i64 k, .int .i64 m, .int .i64 a, .string tx] 33)) w' ∧ w'.cell? ⟨wr.heap.size, 0, none⟩ = some (.int .i64 k) ∧ w'.cell? ⟨wr.heap.size, 1, none⟩ = some (.int .i64 m) ∧ w'.cell? ⟨wr.heap.size, 2, none⟩ = some (.int .i64 a) ∧ w'.cell? ⟨wr.heap.size, 3, none⟩ = some (.string tx) ∧ w'.cell? ⟨b, off + j * 4, none⟩ = some (.int .i64 k) ∧ w'.cell? ⟨b, off + j * 4 + 1, none⟩ = some (.int .i64 m) ∧ w'.cell? ⟨b, off + j * 4 + 2, none⟩ = some (.int .i64 a) ∧ w'.cell? ⟨b, off + j * 4 + 3, none⟩ = some (.string tx))
                  (first | with_reducible exact Held44.on (Later.rfl' _).drew HX0.out | with_reducible exact Held44.on hbk (by assumption))
                  (first | (go_at_call 14; refine (implIsSymbolT _ _ _ _ _).mono ?_; rintro r w8 ⟨rfl, hbk⟩) | (go_at_call 15; refine (implIsKeywordT _ _ _ _ _).mono ?_; rintro r w9 ⟨rfl, hbk⟩))
                all_goals
                  (rename_i hHL
                   have HW9 := Lib.hid (((HW.out).alloc _).trans hHL.1)
                   clear hHL HX0
                   go_wp2_with fail
                   go_roundw
                   case rel => exact ⟨j + 1, by go_num, by omega, HW9.out⟩
                   case measure => simp [intOf]; omega)
              · have : j = T.length := by omega
                subst this
                go_wp2_with fail
                go_ret
                exact ⟨rfl, L.out.trans HW.out⟩
    · subst hnil
      have hb0 : (0 : Int) ≤ B := hend
      go_wp2_with fail
      go_ret
      exact ⟨rfl, L.out⟩
end Go.Proofs.YtghemlokpfipoaaDoor
