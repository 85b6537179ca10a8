/-
  Origins: a row of the call's own; an origin in its place (the reference): plain words and the walks of l3Before, originBefore, l8Put, UnionOrigins of the reference.
-/
import Derived.Test.YtjjmbldgemnhbaaYSQ0
import Derived.Test.YtjjmbldgemnhbaaYW1
import Derived.Test.YtjjmbldgemnhbaaYMD
import Derived.Deep.AppendLies
import Derived.Test.YtjjmbldgemnhbaaYUO1
import Derived.Deep.QuietTactic
import Derived.BigQuiet
import Derived.Deep.RegionHeld3
namespace Go.Proofs.Ytjjmbldgemnhbaa
open Go.ChangeShapes Go.WideShapes Go.ChangeAt Go.RowKit
set_option linter.unusedVariables false
set_option linter.unusedSimpArgs false
set_option maxRecDepth 100000

def Orgs64 (l : List Org) : Prop := ∀ x ∈ l, Between64 x.1 ∧ Between64 x.2
theorem flat_orgs_get : ∀ (l : List Org) {i : Nat} {d : Dt} {u : Value}, (l.flatMap encO)[i]? = some d → (l.flatMap cellsO)[i]? = some u → ∃ n, d = .int n ∧ u = .int .i64 n ∧ ∃ x ∈ l, n = x.1 ∨ n = x.2
  | [], i, d, u, hd, _ => by simp at hd
  | x :: l, 0, d, u, hd, hu => by
    simp [encO] at hd
    simp [cellsO] at hu
    exact ⟨x.1, hd.symm, hu.symm, x, by simp, .inl rfl⟩
  | x :: l, 1, d, u, hd, hu => by
    simp [encO] at hd
    simp [cellsO] at hu
    exact ⟨x.2, hd.symm, hu.symm, x, by simp, .inr rfl⟩
  | x :: l, i + 2, d, u, hd, hu => by
    have hd' : (l.flatMap encO)[i]? = some d := by simpa [encO] using hd
    have hu' : (l.flatMap cellsO)[i]? = some u := by simpa [cellsO] using hu
    obtain ⟨n, h1, h2, y, hy, h3⟩ := flat_orgs_get l hd' hu'
    exact ⟨n, h1, h2, y, by simp [hy], h3⟩
theorem flat_cells_len (l : List Org) : (l.flatMap cellsO).length = l.length * 2 := by
  induction l with
  | nil => rfl
  | cons a l ih => rw [List.flatMap_cons, List.length_append, ih, cellsO_len, List.length_cons]; omega
theorem flat_cells_one (l : List Org) : ∀ u ∈ l.flatMap cellsO, u.oneCell' = true := by
  intro u hu
  obtain ⟨x, _, hx⟩ := List.mem_flatMap.1 hu
  simp [cellsO] at hx
  rcases hx with rfl | rfl <;> rfl
theorem flat_cells_snoc (l : List Org) (x : Org) : (l ++ [x]).flatMap cellsO = l.flatMap cellsO ++ [.int .i64 x.1, .int .i64 x.2] := by simp [cellsO]
theorem flat_cells_at : ∀ (l : List Org) {j : Nat} (hj : j < l.length), (l.flatMap cellsO)[j * 2]? = some (.int .i64 l[j].1) ∧ (l.flatMap cellsO)[j * 2 + 1]? = some (.int .i64 l[j].2)
  | x :: l, 0, _ => by simp [cellsO]
  | x :: l, j + 1, hj => by
    have := flat_cells_at l (j := j) (by simpa using hj)
    rw [show (j + 1) * 2 = j * 2 + 2 by omega]
    simpa [cellsO] using this
/-- A row of origins of the call's own. -/
def ORow (lo : Nat) (w : World) (v : Value) (l : List Org) : Prop := w.ownsRow lo 47 2 v l.length (l.flatMap cellsO)
theorem ORow.own {lo : Nat} {w : World} {v : Value} {l : List Org} {S : Nat → Prop} (h : ORow lo w v l) (hf : Orgs64 l) (hS : ∀ g, v.ownBlock = some g → S g) : Own w S (.sl 2 l.length (l.flatMap encO)) v := by
  refine Own.of_row noB h (by rw [flat_len encO_len]) (fun g hg => ⟨hS g hg, fun _ h => h⟩) (fun _ _ h => False.elim h) (fun _ _ _ _ h => False.elim h) (fun i d u hd hu => ?_)
  obtain ⟨n, rfl, rfl, x, hx, e⟩ := flat_orgs_get l hd hu
  have := hf x hx
  rcases e with rfl | rfl
  · exact .int _ _ this.1
  · exact .int _ _ this.2
theorem ORow.later {lo : Nat} {w w' : World} {v : Value} {l : List Org} (h : ORow lo w v l) (hb : Later w w') : ORow lo w' v l := own_later h hb
theorem ORow.snoc {lo : Nat} {w : World} {v : Value} {l : List Org} {x0 x1 : Int} (h : w.ownsRow lo 47 2 v (l.length + 1) (l.flatMap cellsO ++ [.int .i64 x0, .int .i64 x1])) : ORow lo w v (l ++ [(x0, x1)]) := by
  unfold ORow
  rw [flat_cells_snoc, List.length_append]
  exact h
theorem ORow.at {lo : Nat} {w w' : World} {v : Value} {l : List Org} (h : ORow lo w v l) (hb : Later w w') (o : Obj) : (w'.alloc o).ownsRow lo 47 2 v l.length (l.flatMap cellsO) := own_later h (hb.alloc _)
theorem later_push {X w w' : World} {lo e s n : Nat} {v : Value} {xs : List Value} (h : Later X w) (ho : w.ownsRow lo e s v n xs) (hg : w.grownBy w' v.ownBlock) (hl : X.heap.size ≤ lo) : Later X w' := Below.grown h hg h.size fun k hk => Nat.le_trans hl (ho.lt k hk).1
theorem news_two (w : World) (x0 x1 : Int) (t : TypeId) : ∀ j u, [Value.int .i64 x0, .int .i64 x1][j]? = some u → (w.alloc (.cells #[.int .i64 x0, .int .i64 x1] t)).cell? ((⟨w.heap.size, 0, none⟩ : Addr).add j) = some u := World.news_of_block (heap_alloc_new w _)
theorem one_two {x0 x1 : Int} : ∀ u ∈ [Value.int .i64 x0, .int .i64 x1], u.oneCell' = true := by
  intro u hu
  simp at hu
  rcases hu with rfl | rfl <;> rfl
theorem orgs_64 {w : World} {S : Nat → Prop} {l : List Org} {v : Value} (h : SlAt w S 2 encO l v) : Orgs64 l := by
  intro x hx
  obtain ⟨k, hk, rfl⟩ := List.getElem_of_mem hx
  obtain ⟨A, c, rfl, _⟩ := sl_parts h
  obtain ⟨_, _, _, _, _, _, _, h1, h2⟩ := h.origAt hk
  exact ⟨h1, h2⟩

theorem before_spec.l3Before (a b : Org) (W : World) : Calls Try.prog 36 #[.agg #[.int .i64 a.1, .int .i64 a.2], .agg #[.int .i64 b.1, .int .i64 b.2]] W fun r w' => r = .returned (.bool (ltO a b)) ∧ Later W w' := by
  obtain ⟨a0, a1⟩ := a
  obtain ⟨b0, b1⟩ := b
  by_cases h1 : a0 < b0
  · have HQ : Hid (ltO (a0, a1) (b0, b1) = true) := show _ = _ by simp [ltO, h1]
    go_enter Try.func36, Try.ntmps36
    go_wp2
    go_ret
    exact ⟨ret_bool (HQ.out.symm), ((Later.rfl' _).alloc _).alloc _⟩
  · by_cases h2 : a0 = b0
    · subst h2
      by_cases h3 : a1 < b1
      · have HQ : Hid (ltO (a0, a1) (a0, b1) = true) := show _ = _ by simp [ltO, h3]
        go_enter Try.func36, Try.ntmps36
        go_wp2
        go_ret
        exact ⟨ret_bool (HQ.out.symm), ((Later.rfl' _).alloc _).alloc _⟩
      · have HQ : Hid (ltO (a0, a1) (a0, b1) = false) := show _ = _ by simp [ltO, h3]
        go_enter Try.func36, Try.ntmps36
        go_wp2
        go_ret
        exact ⟨ret_bool (HQ.out.symm), ((Later.rfl' _).alloc _).alloc _⟩
    · have h2' : (a0 == b0) = false := by simpa using h2
      have HQ : Hid (ltO (a0, a1) (b0, b1) = false) := show _ = _ by simp [ltO, h1, h2]
      clear h2
      go_enter Try.func36, Try.ntmps36
      go_wp2
      go_ret
      exact ⟨ret_bool (HQ.out.symm), ((Later.rfl' _).alloc _).alloc _⟩
theorem before_impl.originBefore (a b : Org) (W : World) : Calls Try.prog 22 #[.agg #[.int .i64 a.1, .int .i64 a.2], .agg #[.int .i64 b.1, .int .i64 b.2]] W fun r w' => r = .returned (.bool (ltO a b)) ∧ Later W w' := by
  obtain ⟨a0, a1⟩ := a
  obtain ⟨b0, b1⟩ := b
  by_cases h1 : a0 < b0
  · have HQ : Hid (ltO (a0, a1) (b0, b1) = true) := show _ = _ by simp [ltO, h1]
    go_enter Try.func22, Try.ntmps22
    go_wp2
    go_ret
    exact ⟨ret_bool (HQ.out.symm), ((Later.rfl' _).alloc _).alloc _⟩
  · by_cases h2 : a0 = b0
    · subst h2
      by_cases h3 : a1 < b1
      · have HQ : Hid (ltO (a0, a1) (a0, b1) = true) := show _ = _ by simp [ltO, h3]
        go_enter Try.func22, Try.ntmps22
        go_wp2
        go_ret
        exact ⟨ret_bool (HQ.out.symm), ((Later.rfl' _).alloc _).alloc _⟩
      · have HQ : Hid (ltO (a0, a1) (a0, b1) = false) := show _ = _ by simp [ltO, h3]
        go_enter Try.func22, Try.ntmps22
        go_wp2
        go_ret
        exact ⟨ret_bool (HQ.out.symm), ((Later.rfl' _).alloc _).alloc _⟩
    · have h2' : (a0 == b0) = false := by simpa using h2
      have HQ : Hid (ltO (a0, a1) (b0, b1) = false) := show _ = _ by simp [ltO, h1, h2]
      clear h2
      go_enter Try.func22, Try.ntmps22
      go_wp2
      go_ret
      exact ⟨ret_bool (HQ.out.symm), ((Later.rfl' _).alloc _).alloc _⟩

/-! ### An origin in its place, as the reference does it. -/
def putStep (o : Org) (a : List Org × Bool) (x : Org) : List Org × Bool :=
  if a.2 = true then (a.1 ++ [x], true) else if x = o then (a.1 ++ [x], true) else if ltO o x = true then ((a.1 ++ [o]) ++ [x], true) else (a.1 ++ [x], false)
def putS (o : Org) (l : List Org) : List Org × Bool := l.foldl (putStep o) ([], false)
theorem putS_snoc (o : Org) (l : List Org) (x : Org) : putS o (l ++ [x]) = putStep o (putS o l) x := by unfold putS; rw [List.foldl_append]; rfl
theorem putS_next {o : Org} {l : List Org} {j : Nat} (hj : j < l.length) : putS o (l.take (j + 1)) = putStep o (putS o (l.take j)) l[j] := by rw [List.take_succ_eq_append_getElem hj, putS_snoc]
theorem putS_done (o : Org) : ∀ (l acc : List Org), l.foldl (putStep o) (acc, true) = (acc ++ l, true)
  | [], acc => by simp
  | x :: l, acc => by
    rw [List.foldl_cons, show putStep o (acc, true) x = (acc ++ [x], true) from by simp [putStep], putS_done o l]
    simp
theorem putS_fin_acc (o : Org) : ∀ (l acc : List Org), (if (l.foldl (putStep o) (acc, false)).2 = true then (l.foldl (putStep o) (acc, false)).1 else (l.foldl (putStep o) (acc, false)).1 ++ [o]) = acc ++ putO o l
  | [], acc => by simp [putO]
  | x :: l, acc => by
    rw [List.foldl_cons]
    by_cases h : x = o
    · rw [show putStep o (acc, false) x = (acc ++ [x], true) from by simp [putStep, h], putS_done]
      simp [putO, h]
    · by_cases hlt : ltO o x = true
      · rw [show putStep o (acc, false) x = ((acc ++ [o]) ++ [x], true) from by simp [putStep, h, hlt], putS_done]
        simp [putO, h, hlt]
      · rw [show putStep o (acc, false) x = (acc ++ [x], false) from by simp [putStep, h, hlt], putS_fin_acc o l]
        simp [putO, h, hlt]
theorem putS_fin (o : Org) (l : List Org) : (if (putS o l).2 = true then (putS o l).1 else (putS o l).1 ++ [o]) = putO o l := by
  have := putS_fin_acc o l []
  rw [List.nil_append] at this
  exact this
theorem putStep_len (o : Org) (a : List Org × Bool) (x : Org) : (putStep o a x).1.length ≤ a.1.length + 2 := by
  unfold putStep
  split
  · simp
  · split
    · simp
    · split
      · simp
      · simp
theorem putS_len_acc (o : Org) : ∀ (l : List Org) (a : List Org × Bool), (l.foldl (putStep o) a).1.length ≤ a.1.length + 2 * l.length
  | [], a => by simp
  | x :: l, a => by
    rw [List.foldl_cons]
    have h1 := putS_len_acc o l (putStep o a x)
    have h2 := putStep_len o a x
    simp only [List.length_cons]
    omega
theorem putS_len (o : Org) (l : List Org) : (putS o l).1.length ≤ 2 * l.length := by have := putS_len_acc o l ([], false); simpa [putS] using this

set_option maxHeartbeats 4000000 in
theorem specPut (l : List Org) (o : Org) (hl : l.length ≤ 2097152) (ho : Between64 o.1 ∧ Between64 o.2) (W : World) (S : Nat → Prop) (v : Value) (h : SlAt W S 2 encO l v) : Calls Try.prog 18 #[v, .agg #[.int .i64 o.1, .int .i64 o.2]] W fun r w' => CopyS W w' 2 encO (putO o l) r ∧ Later W w' := by
  have HF : Hid (Orgs64 (putO o l)) := fun x hx => by
    rcases mem_putO.1 hx with rfl | hx
    · exact ho
    · exact orgs_64 h x hx
  obtain ⟨A, c, rfl, hlc, hcm⟩ := sl_parts h
  have HE := Lib.hid h
  have HOB := Lib.hid ho
  clear h ho
  obtain ⟨o0, o1⟩ := o
  simp only
  have CB := fun (x0 x1 : Int) W => before_spec.l3Before (o0, o1) (x0, x1) W
  simp only at CB
  obtain ⟨i0, hi, hz0, hz1, hz2⟩ := info_parts info_orig
  go_enter Try.func18, Try.ntmps18
  go_wp2_with fail
  go_loopw [5, 6, 7] (fun ov dv iv wr => ∃ (j : Nat) (K : List Org) (dn : Bool), j ≤ l.length ∧ iv = .int .i64 j ∧ dv = .bool dn ∧ Hid (putS (o0, o1) (l.take j) = (K, dn)) ∧ ORow (W.heap.size + 1) wr ov K ∧ Later (W.alloc (.cells #[.int .i64 o0, .int .i64 o1] 47)) wr) (fun _ _ iv _ => l.length - (intOf iv).toNat)
  case atStart =>
    have H0 := World.ownsRow_made (base := W.heap.size + 1) (e := 47) (size := 2) (W.alloc (.cells #[.int .i64 o0, .int .i64 o1] 47)) #[] 0 (by simp) (Nat.zero_le _) rfl
    exact ⟨0, [], false, Nat.zero_le _, rfl, rfl, rfl, by simpa [ORow] using H0, (Later.rfl' _).alloc _⟩
  case round =>
    obtain ⟨j, K, dn, hj, rfl, rfl, HK, hown, hw⟩ := hrel
    have HB := (box_alloc W #[.int .i64 o0, .int .i64 o1] 47).later hw
    have b0 := HB.cell (j := 0) rfl
    have b1 := HB.cell (j := 1) rfl
    have hz := HB.lt
    have hKl : K.length ≤ 2 * j := by have := putS_len (o0, o1) (l.take j); rw [HK.out, List.length_take] at this; simp only at this; omega
    by_cases hlt : j < l.length
    · obtain ⟨b, off, rfl, hb0, _, k0, k1, _⟩ := HE.out.origAt hlt
      have e0 := kept_cell (((Later.rfl' W).alloc _).trans hw) k0
      have e1 := kept_cell (((Later.rfl' W).alloc _).trans hw) k1
      have hstep := putS_next (o := (o0, o1)) hlt
      rw [HK.out] at hstep
      obtain ⟨⟨x0, x1⟩, hX⟩ : ∃ x, x = l[j] := ⟨_, rfl⟩
      rw [← hX] at e0 e1 k0 k1 hstep
      simp only at e0 e1 k0 k1
      have K0 := Lib.hid k0
      have HW := Lib.hid hw
      have HOWN := Lib.hid hown
      have hki : (j : Int) < (l.length : Int) := by omega
      clear hX hw hown HB
      by_cases hq : x0 = o0
      · subst hq
        by_cases hq2 : x1 = o1
        · subst hq2
          have hxo : True := trivial
          have HS : Hid (putS (x0, x1) (l.take (j + 1)) = (K ++ [(x0, x1)], true)) := by unfold Hid; rw [hstep]; unfold putStep; cases dn <;> simp
          clear hxo hstep
          cases dn <;> (
            go_wp2_with fail
            go_quiet (fail)
            go_wp2_with fail
            go_quiet (fail)
            go_wp2_with (at_builtin; refine wpList_append_own _ rfl _ _ 24 rfl (W.heap.size + 1) 47 i0 (.agg #[.int .i64 0, .int .i64 0]) 2 16 Try.underlying24 hi hz0 hz1 hz2 rfl (by decide) _ (K.length) (K.flatMap cellsO) rfl ?own ⟨wr.heap.size, 0, none⟩ 1 1 [.int .i64 x0, .int .i64 x1] rfl rfl ?c1 one_two ?c3 ?c4 ?c5 ?_)
            case own => exact ORow.at (HOWN.out) (Later.rfl' _) _
            case c1 => exact news_two _ _ _ _
            case c3 => skip; unfold maxLen; omega
            case c4 => skip; omega
            case c5 => simp; omega
            intro v2 w2 hown_w2 hgrow_w2 _
            have hl2 := later_push (HW.out.trans ((Later.drewN wr _).alloc _)) (ORow.at HOWN.out (Later.rfl' _) _) hgrow_w2 (by simp)
            have HL := Lib.hid hl2
            have HO := Lib.hid (ORow.snoc hown_w2)
            clear hl2 hown_w2 hgrow_w2
            go_wp2_with fail
            go_roundw
            case rel => exact ⟨j + 1, K ++ [(x0, x1)], true, by omega, by go_num, rfl, HS.out, HO.out, HL.out⟩
            case measure => simp [intOf]; omega)
        · have hne : (x1 != o1) = true := by simpa using hq2
          have hne2 : (x1 == o1) = false := by simpa using hq2
          have hxo : ¬ ((x0, x1) : Org) = (x0, o1) := fun e => hq2 (by simpa using congrArg Prod.snd e)
          cases dn with
          | true =>
            have HS : Hid (putS (x0, o1) (l.take (j + 1)) = (K ++ [(x0, x1)], true)) := by unfold Hid; rw [hstep]; simp [putStep]
            clear hq2 hxo hstep
            go_wp2_with fail
            go_quiet (fail)
            go_wp2_with fail
            go_quiet (fail)
            go_wp2_with (at_builtin; refine wpList_append_own _ rfl _ _ 24 rfl (W.heap.size + 1) 47 i0 (.agg #[.int .i64 0, .int .i64 0]) 2 16 Try.underlying24 hi hz0 hz1 hz2 rfl (by decide) _ (K.length) (K.flatMap cellsO) rfl ?own ⟨wr.heap.size, 0, none⟩ 1 1 [.int .i64 x0, .int .i64 x1] rfl rfl ?c1 one_two ?c3 ?c4 ?c5 ?_)
            case own => exact ORow.at (HOWN.out) (Later.rfl' _) _
            case c1 => exact news_two _ _ _ _
            case c3 => skip; unfold maxLen; omega
            case c4 => skip; omega
            case c5 => simp; omega
            intro v2 w2 hown_w2 hgrow_w2 _
            have hl2 := later_push (HW.out.trans ((Later.drewN wr _).alloc _)) (ORow.at HOWN.out (Later.rfl' _) _) hgrow_w2 (by simp)
            have HL := Lib.hid hl2
            have HO := Lib.hid (ORow.snoc hown_w2)
            clear hl2 hown_w2 hgrow_w2
            go_wp2_with fail
            go_roundw
            case rel => exact ⟨j + 1, K ++ [(x0, x1)], true, by omega, by go_num, rfl, HS.out, HO.out, HL.out⟩
            case measure => simp [intOf]; omega
          | false =>
            clear hq2
            obtain ⟨q, hqq⟩ : ∃ q, q = ltO (x0, o1) (x0, x1) := ⟨_, rfl⟩
            have hqs : putStep (x0, o1) (K, false) (x0, x1) = if q = true then ((K ++ [(x0, o1)]) ++ [(x0, x1)], true) else (K ++ [(x0, x1)], false) := by rw [hqq]; simp [putStep, hxo]
            have CBX := CB x0 x1
            simp only [← hqq] at CBX
            have HCB := Lib.hid CBX
            have HQ := Lib.hid (hstep.trans hqs)
            clear CB CBX hqq hqs hstep hxo
            go_wp2_with fail
            go_quiet (fail)
            go_wp2_with fail
            go_region_held3 (fun w' => w'.cell? ⟨W.heap.size, 0, none⟩ = some (.int .i64 x0) ∧ w'.cell? ⟨W.heap.size, 1, none⟩ = some (.int .i64 o1) ∧ w'.cell? ⟨b, off + j * 2, none⟩ = some (.int .i64 x0) ∧ w'.cell? ⟨b, off + j * 2 + 1, none⟩ = some (.int .i64 x1))
              (first | exact ⟨b0, b1, e0, e1⟩ | exact ⟨kept_cell hb1 b0, kept_cell hb1 b1, kept_cell hb1 e0, kept_cell hb1 e1⟩)
              (first | (go_at_call 36; refine (HCB.out _).mono ?_; rintro r w1 ⟨rfl, hb1⟩))
            have hb2 : Later wr w1 := (Later.drewN wr _).trans ((Later.rfl' _).drew.trans hb1)
            have HB2 := Lib.hid hb2
            have f0 := kept_cell hb2 b0
            have f1 := kept_cell hb2 b1
            have g0 := kept_cell hb2 e0
            have g1 := kept_cell hb2 e1
            have hs2 := hb2.size
            clear hb1 hb2 b0 b1 e0 e1
            cases q with
            | true =>
              have HS : Hid (putS (x0, o1) (l.take (j + 1)) = ((K ++ [(x0, o1)]) ++ [(x0, x1)], true)) := by unfold Hid; rw [HQ.out, if_pos rfl]
              clear HQ HCB
              go_wp2_with (at_builtin; refine wpList_append_own _ rfl _ _ 24 rfl (W.heap.size + 1) 47 i0 (.agg #[.int .i64 0, .int .i64 0]) 2 16 Try.underlying24 hi hz0 hz1 hz2 rfl (by decide) _ (K.length) (K.flatMap cellsO) rfl ?own ⟨w1.heap.size, 0, none⟩ 1 1 [.int .i64 x0, .int .i64 o1] rfl rfl ?c1 one_two ?c3 ?c4 ?c5 ?_)
              case own => exact ORow.at (HOWN.out) (HB2.out) _
              case c1 => exact news_two _ _ _ _
              case c3 => skip; unfold maxLen; omega
              case c4 => skip; omega
              case c5 => simp; omega
              intro v2 w2 hown_w2 hgrow_w2 _
              have hl2 := later_push ((HW.out.trans HB2.out).alloc _) (ORow.at HOWN.out HB2.out _) hgrow_w2 (by simp)
              have HL := Lib.hid hl2
              have HO := Lib.hid (ORow.snoc hown_w2)
              have e0 := kept_cell (((Later.rfl' W).alloc _).trans hl2) k0
              have e1 := kept_cell (((Later.rfl' W).alloc _).trans hl2) k1
              have hs3 := hl2.size
              simp only [World.size_alloc] at hs3
              clear hl2 hown_w2 hgrow_w2 f0 f1 g0 g1
              obtain ⟨K2, hK2⟩ : ∃ K2, K2 = K ++ [(x0, o1)] := ⟨_, rfl⟩
              have hKn : K2.length ≤ K.length + 1 := by rw [hK2, List.length_append]; exact Nat.le_refl _
              rw [← hK2] at HO HS
              clear hK2
              go_wp2_with (at_builtin; refine wpList_append_own _ rfl _ _ 24 rfl (W.heap.size + 1) 47 i0 (.agg #[.int .i64 0, .int .i64 0]) 2 16 Try.underlying24 hi hz0 hz1 hz2 rfl (by decide) _ (K2.length) (K2.flatMap cellsO) rfl ?own ⟨w2.heap.size, 0, none⟩ 1 1 [.int .i64 x0, .int .i64 x1] rfl rfl ?c1 one_two ?c3 ?c4 ?c5 ?_)
              case own => exact ORow.at (HO.out) (Later.rfl' _) _
              case c1 => exact news_two _ _ _ _
              case c3 => skip; unfold maxLen; omega
              case c4 => skip; omega
              case c5 => simp; omega
              intro v3 w3 hown_w3 hgrow_w3 _
              have hl3 := later_push (HL.out.alloc _) (ORow.at HO.out (Later.rfl' _) _) hgrow_w3 (by simp)
              have HL3 := Lib.hid hl3
              have HO3 := Lib.hid (ORow.snoc hown_w3)
              clear hl3 hown_w3 hgrow_w3
              go_wp2_with fail
              go_roundw
              case rel => exact ⟨j + 1, K2 ++ [(x0, x1)], true, by omega, by go_num, rfl, HS.out, HO3.out, HL3.out⟩
              case measure => simp [intOf]; omega
            | false =>
              have HS : Hid (putS (x0, o1) (l.take (j + 1)) = (K ++ [(x0, x1)], false)) := by unfold Hid; rw [HQ.out, if_neg Bool.false_ne_true]
              clear HQ HCB
              go_wp2_with (at_builtin; refine wpList_append_own _ rfl _ _ 24 rfl (W.heap.size + 1) 47 i0 (.agg #[.int .i64 0, .int .i64 0]) 2 16 Try.underlying24 hi hz0 hz1 hz2 rfl (by decide) _ (K.length) (K.flatMap cellsO) rfl ?own ⟨w1.heap.size, 0, none⟩ 1 1 [.int .i64 x0, .int .i64 x1] rfl rfl ?c1 one_two ?c3 ?c4 ?c5 ?_)
              case own => exact ORow.at (HOWN.out) (HB2.out) _
              case c1 => exact news_two _ _ _ _
              case c3 => skip; unfold maxLen; omega
              case c4 => skip; omega
              case c5 => simp; omega
              intro v2 w2 hown_w2 hgrow_w2 _
              have hl2 := later_push ((HW.out.trans HB2.out).alloc _) (ORow.at HOWN.out HB2.out _) hgrow_w2 (by simp)
              have HL := Lib.hid hl2
              have HO := Lib.hid (ORow.snoc hown_w2)
              clear hl2 hown_w2 hgrow_w2
              go_wp2_with fail
              go_roundw
              case rel => exact ⟨j + 1, K ++ [(x0, x1)], false, by omega, by go_num, rfl, HS.out, HO.out, HL.out⟩
              case measure => simp [intOf]; omega
      · have hne : (x0 != o0) = true := by simpa using hq
        have hne2 : (x0 == o0) = false := by simpa using hq
        have hxo : ¬ ((x0, x1) : Org) = (o0, o1) := fun e => hq (by simpa using congrArg Prod.fst e)
        cases dn with
        | true =>
          have HS : Hid (putS (o0, o1) (l.take (j + 1)) = (K ++ [(x0, x1)], true)) := by unfold Hid; rw [hstep]; simp [putStep]
          clear hq hxo hstep
          go_wp2_with fail
          go_quiet (fail)
          go_wp2_with fail
          go_quiet (fail)
          go_wp2_with (at_builtin; refine wpList_append_own _ rfl _ _ 24 rfl (W.heap.size + 1) 47 i0 (.agg #[.int .i64 0, .int .i64 0]) 2 16 Try.underlying24 hi hz0 hz1 hz2 rfl (by decide) _ (K.length) (K.flatMap cellsO) rfl ?own ⟨wr.heap.size, 0, none⟩ 1 1 [.int .i64 x0, .int .i64 x1] rfl rfl ?c1 one_two ?c3 ?c4 ?c5 ?_)
          case own => exact ORow.at (HOWN.out) (Later.rfl' _) _
          case c1 => exact news_two _ _ _ _
          case c3 => skip; unfold maxLen; omega
          case c4 => skip; omega
          case c5 => simp; omega
          intro v2 w2 hown_w2 hgrow_w2 _
          have hl2 := later_push (HW.out.trans ((Later.drewN wr _).alloc _)) (ORow.at HOWN.out (Later.rfl' _) _) hgrow_w2 (by simp)
          have HL := Lib.hid hl2
          have HO := Lib.hid (ORow.snoc hown_w2)
          clear hl2 hown_w2 hgrow_w2
          go_wp2_with fail
          go_roundw
          case rel => exact ⟨j + 1, K ++ [(x0, x1)], true, by omega, by go_num, rfl, HS.out, HO.out, HL.out⟩
          case measure => simp [intOf]; omega
        | false =>
          clear hq
          obtain ⟨q, hqq⟩ : ∃ q, q = ltO (o0, o1) (x0, x1) := ⟨_, rfl⟩
          have hqs : putStep (o0, o1) (K, false) (x0, x1) = if q = true then ((K ++ [(o0, o1)]) ++ [(x0, x1)], true) else (K ++ [(x0, x1)], false) := by rw [hqq]; simp [putStep, hxo]
          have CBX := CB x0 x1
          simp only [← hqq] at CBX
          have HCB := Lib.hid CBX
          have HQ := Lib.hid (hstep.trans hqs)
          clear CB CBX hqq hqs hstep hxo
          go_wp2_with fail
          go_quiet (fail)
          go_wp2_with fail
          go_region_held3 (fun w' => w'.cell? ⟨W.heap.size, 0, none⟩ = some (.int .i64 o0) ∧ w'.cell? ⟨W.heap.size, 1, none⟩ = some (.int .i64 o1) ∧ w'.cell? ⟨b, off + j * 2, none⟩ = some (.int .i64 x0) ∧ w'.cell? ⟨b, off + j * 2 + 1, none⟩ = some (.int .i64 x1))
            (first | exact ⟨b0, b1, e0, e1⟩ | exact ⟨kept_cell hb1 b0, kept_cell hb1 b1, kept_cell hb1 e0, kept_cell hb1 e1⟩)
            (first | (go_at_call 36; refine (HCB.out _).mono ?_; rintro r w1 ⟨rfl, hb1⟩))
          have hb2 : Later wr w1 := (Later.drewN wr _).trans ((Later.rfl' _).drew.trans hb1)
          have HB2 := Lib.hid hb2
          have f0 := kept_cell hb2 b0
          have f1 := kept_cell hb2 b1
          have g0 := kept_cell hb2 e0
          have g1 := kept_cell hb2 e1
          have hs2 := hb2.size
          clear hb1 hb2 b0 b1 e0 e1
          cases q with
          | true =>
            have HS : Hid (putS (o0, o1) (l.take (j + 1)) = ((K ++ [(o0, o1)]) ++ [(x0, x1)], true)) := by unfold Hid; rw [HQ.out, if_pos rfl]
            clear HQ HCB
            go_wp2_with (at_builtin; refine wpList_append_own _ rfl _ _ 24 rfl (W.heap.size + 1) 47 i0 (.agg #[.int .i64 0, .int .i64 0]) 2 16 Try.underlying24 hi hz0 hz1 hz2 rfl (by decide) _ (K.length) (K.flatMap cellsO) rfl ?own ⟨w1.heap.size, 0, none⟩ 1 1 [.int .i64 o0, .int .i64 o1] rfl rfl ?c1 one_two ?c3 ?c4 ?c5 ?_)
            case own => exact ORow.at (HOWN.out) (HB2.out) _
            case c1 => exact news_two _ _ _ _
            case c3 => skip; unfold maxLen; omega
            case c4 => skip; omega
            case c5 => simp; omega
            intro v2 w2 hown_w2 hgrow_w2 _
            have hl2 := later_push ((HW.out.trans HB2.out).alloc _) (ORow.at HOWN.out HB2.out _) hgrow_w2 (by simp)
            have HL := Lib.hid hl2
            have HO := Lib.hid (ORow.snoc hown_w2)
            have e0 := kept_cell (((Later.rfl' W).alloc _).trans hl2) k0
            have e1 := kept_cell (((Later.rfl' W).alloc _).trans hl2) k1
            have hs3 := hl2.size
            simp only [World.size_alloc] at hs3
            clear hl2 hown_w2 hgrow_w2 f0 f1 g0 g1
            obtain ⟨K2, hK2⟩ : ∃ K2, K2 = K ++ [(o0, o1)] := ⟨_, rfl⟩
            have hKn : K2.length ≤ K.length + 1 := by rw [hK2, List.length_append]; exact Nat.le_refl _
            rw [← hK2] at HO HS
            clear hK2
            go_wp2_with (at_builtin; refine wpList_append_own _ rfl _ _ 24 rfl (W.heap.size + 1) 47 i0 (.agg #[.int .i64 0, .int .i64 0]) 2 16 Try.underlying24 hi hz0 hz1 hz2 rfl (by decide) _ (K2.length) (K2.flatMap cellsO) rfl ?own ⟨w2.heap.size, 0, none⟩ 1 1 [.int .i64 x0, .int .i64 x1] rfl rfl ?c1 one_two ?c3 ?c4 ?c5 ?_)
            case own => exact ORow.at (HO.out) (Later.rfl' _) _
            case c1 => exact news_two _ _ _ _
            case c3 => skip; unfold maxLen; omega
            case c4 => skip; omega
            case c5 => simp; omega
            intro v3 w3 hown_w3 hgrow_w3 _
            have hl3 := later_push (HL.out.alloc _) (ORow.at HO.out (Later.rfl' _) _) hgrow_w3 (by simp)
            have HL3 := Lib.hid hl3
            have HO3 := Lib.hid (ORow.snoc hown_w3)
            clear hl3 hown_w3 hgrow_w3
            go_wp2_with fail
            go_roundw
            case rel => exact ⟨j + 1, K2 ++ [(x0, x1)], true, by omega, by go_num, rfl, HS.out, HO3.out, HL3.out⟩
            case measure => simp [intOf]; omega
          | false =>
            have HS : Hid (putS (o0, o1) (l.take (j + 1)) = (K ++ [(x0, x1)], false)) := by unfold Hid; rw [HQ.out, if_neg Bool.false_ne_true]
            clear HQ HCB
            go_wp2_with (at_builtin; refine wpList_append_own _ rfl _ _ 24 rfl (W.heap.size + 1) 47 i0 (.agg #[.int .i64 0, .int .i64 0]) 2 16 Try.underlying24 hi hz0 hz1 hz2 rfl (by decide) _ (K.length) (K.flatMap cellsO) rfl ?own ⟨w1.heap.size, 0, none⟩ 1 1 [.int .i64 x0, .int .i64 x1] rfl rfl ?c1 one_two ?c3 ?c4 ?c5 ?_)
            case own => exact ORow.at (HOWN.out) (HB2.out) _
            case c1 => exact news_two _ _ _ _
            case c3 => skip; unfold maxLen; omega
            case c4 => skip; omega
            case c5 => simp; omega
            intro v2 w2 hown_w2 hgrow_w2 _
            have hl2 := later_push ((HW.out.trans HB2.out).alloc _) (ORow.at HOWN.out HB2.out _) hgrow_w2 (by simp)
            have HL := Lib.hid hl2
            have HO := Lib.hid (ORow.snoc hown_w2)
            clear hl2 hown_w2 hgrow_w2
            go_wp2_with fail
            go_roundw
            case rel => exact ⟨j + 1, K ++ [(x0, x1)], false, by omega, by go_num, rfl, HS.out, HO.out, HL.out⟩
            case measure => simp [intOf]; omega
    · have e : l.take j = l := List.take_of_length_le (by omega)
      have hK := HK.out
      rw [e] at hK
      have hf := putS_fin (o0, o1) l
      rw [hK] at hf
      have HL := Lib.hid hw
      have HO := Lib.hid hown
      have hzl := hw.size
      simp only [World.size_alloc] at hzl
      clear e hK hw hown HB
      cases dn with
      | true =>
        have hf' : K = putO (o0, o1) l := by simpa using hf
        have HRES := Lib.hid (ORow.own (S := fun b => W.heap.size ≤ b ∧ b < wr.heap.size) HO.out (hf'.symm ▸ HF.out) (fun g hg => ⟨by have := (World.ownsRow.lt HO.out g hg).1; omega, (World.ownsRow.lt HO.out g hg).2⟩))
        have HF' := Lib.hid hf'
        clear hf hf'
        go_wp2_with fail
        go_ret
        exact ⟨⟨_, rfl, by rw [← HF'.out]; exact HRES.out⟩, ((Later.rfl' _).alloc _).trans HL.out⟩
      | false =>
        have hf' : K ++ [(o0, o1)] = putO (o0, o1) l := by simpa using hf
        have HF' := Lib.hid hf'
        have hKL : K.length ≤ 2 * l.length := by omega
        clear hf hf'
        go_wp2_with (at_builtin; refine wpList_append_own _ rfl _ _ 24 rfl (W.heap.size + 1) 47 i0 (.agg #[.int .i64 0, .int .i64 0]) 2 16 Try.underlying24 hi hz0 hz1 hz2 rfl (by decide) _ (K.length) (K.flatMap cellsO) rfl ?own ⟨wr.heap.size, 0, none⟩ 1 1 [.int .i64 o0, .int .i64 o1] rfl rfl ?c1 one_two ?c3 ?c4 ?c5 ?_)
        case own => exact ORow.at (HO.out) (Later.rfl' _) _
        case c1 => exact news_two _ _ _ _
        case c3 => skip; unfold maxLen; omega
        case c4 => skip; omega
        case c5 => simp; omega
        intro v2 w2 hown_w2 hgrow_w2 _
        have hl2 := later_push (HL.out.alloc _) (ORow.at HO.out (Later.rfl' _) _) hgrow_w2 (by simp)
        have hz2 := hl2.size
        simp only [World.size_alloc] at hz2
        have HL2 := Lib.hid hl2
        have HO2 := Lib.hid (ORow.snoc hown_w2)
        have HRES := Lib.hid (ORow.own (S := fun b => W.heap.size ≤ b ∧ b < w2.heap.size) HO2.out (HF'.out.symm ▸ HF.out) (fun g hg => ⟨by have := (World.ownsRow.lt HO2.out g hg).1; omega, (World.ownsRow.lt HO2.out g hg).2⟩))
        clear hl2 hown_w2 hgrow_w2
        go_wp2_with fail
        go_ret
        exact ⟨⟨_, rfl, by rw [← HF'.out]; exact HRES.out⟩, ((Later.rfl' _).alloc _).trans HL2.out⟩

end Go.Proofs.Ytjjmbldgemnhbaa
