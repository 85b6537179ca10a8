/-
  Without: the walks.
-/
import Derived.Test.YtnfhbppmbpgfaaaA4
import Derived.Test.YtnfhbppmbpgfaaaOwn
namespace Go.Proofs.Ytnfhbppmbpgfaaa
open Go.ChangeShapes Go.WideShapes Go.ChangeAt Go.RowKit
set_option linter.unusedVariables false
set_option linter.unusedSimpArgs false

/-- The strings of a list that another has not. -/
def withoutB (xs ys : List ByteArray) : List ByteArray := xs.filter fun x => !hasB ys x
theorem without_hit {xs ys : List ByteArray} {k : Nat} (hk : k < xs.length) (h : hasB ys xs[k] = true) : withoutB (xs.take (k + 1)) ys = withoutB (xs.take k) ys := by
  unfold withoutB
  rw [List.take_succ_eq_append_getElem hk, List.filter_append]
  simp [h]
theorem without_new {xs ys : List ByteArray} {k : Nat} (hk : k < xs.length) (h : hasB ys xs[k] = false) : withoutB (xs.take (k + 1)) ys = withoutB (xs.take k) ys ++ [xs[k]] := by
  unfold withoutB
  rw [List.take_succ_eq_append_getElem hk, List.filter_append]
  simp [h]
theorem without_le (xs ys : List ByteArray) : (withoutB xs ys).length ≤ xs.length := List.length_filter_le _ _

/-- What an append leaves. -/
theorem later_append {w wr w1 : World} {v : Value} {e n : Nat} {xs : List Value} (hb : Later w wr) (hown : wr.ownsRow w.heap.size e 1 v n xs) (hg : wr.grownBy w1 v.ownBlock) : Later w w1 :=
  Below.grown hb hg (hb.size) (fun k hk => (hown.lt k hk).1)


theorem specWithout (v u : Value) (xs ys : List ByteArray) (w : World) (h : Strs w v xs) (h' : Strs w u ys) (hn : xs.length ≤ 1048576) :
    Calls Try.prog 13 #[v, u] w fun e w' => OwnS w w' (withoutB xs ys) e ∧ Later w w' := by
  obtain ⟨_, A, c, rfl, hlc, hcm, hc⟩ := h
  obtain ⟨i0, hi, hz0, hz1, hz2⟩ := info_parts info_string
  have HU := Lib.hid h'; clear h'
  go_enter Try.func13, Try.ntmps13
  go_wp2_with fail
  go_loopw [5, 6] (fun o i wr => ∃ k : Nat, k ≤ xs.length ∧ i = .int .i64 k ∧ wr.ownsRow w.heap.size 9 1 o (withoutB (xs.take k) ys).length ((withoutB (xs.take k) ys).map .string) ∧ Later w wr) (fun _ i _ => xs.length - (intOf i).toNat)
  case atStart => exact ⟨0, Nat.zero_le _, rfl, World.ownsRow_made w #[] 0 (Nat.le_refl _) (Nat.zero_le _) rfl, (Later.rfl' _).alloc _⟩
  case round =>
    obtain ⟨k, hk, rfl, hown, hw⟩ := hrel
    by_cases hlt : k < xs.length
    · obtain ⟨b, off, rfl, hb, hcell⟩ := (hc.later hw).at_ (k := k) (by simpa using hlt)
      simp only [List.getElem_map] at hcell
      have CH := specl1Has u ys xs[k] wr (HU.out.later hw)
      have hno := without_hit (ys := ys) hlt
      have hyes := without_new (ys := ys) hlt
      have hle : (withoutB (xs.take k) ys).length ≤ 1048576 := by have := without_le (xs.take k) ys; rw [List.length_take] at this; omega
      obtain ⟨x, hx⟩ : ∃ x, x = xs[k] := ⟨_, rfl⟩
      rw [← hx] at hcell CH hno hyes
      obtain ⟨K, hK⟩ : ∃ K, K = withoutB (xs.take k) ys := ⟨_, rfl⟩
      rw [← hK] at hown hno hyes hle
      rcases Bool.eq_false_or_eq_true (hasB ys x) with hq | hq
      all_goals rw [hq] at CH
      · have HNO := Lib.hid (hno hq)
        have HC := Lib.hid CH
        have HOWN := Lib.hid hown
        have HW := Lib.hid hw
        clear hno hyes hx hK hq CH hown hw hc hle
        go_wp2_with fail
        refine HC.out.mono ?_; rintro r w1 ⟨rfl, hd⟩
        have hb1 := hd.later
        have HOWN1 := Lib.hid (own_later HOWN.out hb1)
        clear hd
        go_wp2_with fail
        go_roundw
        case rel => exact ⟨k + 1, by omega, by go_num, by rw [HNO.out]; exact HOWN1.out, HW.out.trans hb1⟩
        case measure => simp [intOf]; omega
      · have HYES := Lib.hid (hyes hq)
        have HC := Lib.hid CH
        have HOWN := Lib.hid hown
        have HW := Lib.hid hw
        clear hno hyes hx hK hq CH hown hw hc
        go_wp2_with fail
        refine HC.out.mono ?_; rintro r w1 ⟨rfl, hd⟩
        have hb1 := hd.later
        have hown1 := own_later HOWN.out hb1
        have hcell1 := kept_cell hb1 hcell
        have hw1 := HW.out.trans hb1
        have hs1 := hw1.size
        have HB1 := Lib.hid hb1
        clear hd hb1 hcell
        go_wp2_with (at_builtin; refine wpList_append_own _ rfl _ _ 26 rfl w.heap.size 9 i0 (.string ByteArray.empty) 1 16 Try.underlying26 hi hz0 hz1 hz2 rfl (by decide) _ _ _ rfl (hown1.alloc _) ⟨w1.heap.size, 0, none⟩ 1 1 [.string x] rfl rfl ?c1 ?c2 ?c3 ?c4 ?c5 ?_)
        case c1 =>
          intro j u hj
          match j, hj with
          | 0, hj => simp at hj; subst hj; simp [Addr.add]
        case c2 => intro u hu; simp at hu; subst hu; rfl
        case c3 => unfold maxLen; omega
        case c4 => omega
        case c5 => simp; omega
        · intro v' w2 hown2 hgrow2 _
          have hl2 := later_append (hw1.alloc _) (hown1.alloc _) hgrow2
          have HR : Hid (w2.ownsRow w.heap.size 9 1 v' (withoutB (xs.take (k + 1)) ys).length ((withoutB (xs.take (k + 1)) ys).map .string)) := by
            unfold Hid
            rw [HYES.out, List.map_append, List.length_append]
            exact hown2
          have HL := Lib.hid hl2
          clear hown2 hgrow2 hown1 hw1 hl2 hcell1 hs1
          go_wp2_with fail
          go_roundw
          case rel => exact ⟨k + 1, by omega, by go_num, HR.out, HL.out⟩
          case measure => simp [intOf]; omega
    · have e : xs.take k = xs := List.take_of_length_le (by omega)
      rw [e] at hown
      clear e hc
      have HOWN := Lib.hid hown
      clear hown
      go_wp2_with fail
      go_ret
      exact ⟨⟨_, rfl, HOWN.out⟩, hw⟩

theorem implWithout (v u : Value) (xs ys : List ByteArray) (w : World) (h : Strs w v xs) (h' : Strs w u ys) (hn : xs.length ≤ 1048576) :
    Calls Try.prog 10 #[v, u] w fun e w' => OwnS w w' (withoutB xs ys) e ∧ Later w w' := by
  obtain ⟨_, A, c, rfl, hlc, hcm, hc⟩ := h
  obtain ⟨i0, hi, hz0, hz1, hz2⟩ := info_parts info_string
  have HU := Lib.hid h'; clear h'
  go_enter Try.func10, Try.ntmps10
  go_wp2_with fail
  go_loopw [5, 11] (fun o i wr => ∃ k : Nat, k ≤ xs.length ∧ i = .int .i64 k ∧ wr.ownsRow w.heap.size 9 1 o (withoutB (xs.take k) ys).length ((withoutB (xs.take k) ys).map .string) ∧ Later w wr) (fun _ i _ => xs.length - (intOf i).toNat)
  case atStart => exact ⟨0, Nat.zero_le _, rfl, World.ownsRow_made w #[] 0 (Nat.le_refl _) (Nat.zero_le _) rfl, (Later.rfl' _).alloc _⟩
  case round =>
    obtain ⟨k, hk, rfl, hown, hw⟩ := hrel
    by_cases hlt : k < xs.length
    · obtain ⟨b, off, rfl, hb, hcell⟩ := (hc.later hw).at_ (k := k) (by simpa using hlt)
      simp only [List.getElem_map] at hcell
      have CH := implIndexOf u ys xs[k] wr (HU.out.later hw)
      have hno := without_hit (ys := ys) hlt
      have hyes := without_new (ys := ys) hlt
      have hle : (withoutB (xs.take k) ys).length ≤ 1048576 := by have := without_le (xs.take k) ys; rw [List.length_take] at this; omega
      obtain ⟨x, hx⟩ : ∃ x, x = xs[k] := ⟨_, rfl⟩
      rw [← hx] at hcell CH hno hyes
      obtain ⟨K, hK⟩ : ∃ K, K = withoutB (xs.take k) ys := ⟨_, rfl⟩
      rw [← hK] at hown hno hyes hle
      have hhi := has_index ys x
      obtain ⟨I, hI⟩ : ∃ I, I = indexB ys x := ⟨_, rfl⟩
      rw [← hI] at CH hhi
      clear hI
      by_cases hi0 : 0 ≤ I
      all_goals
        have hq := hhi
        simp only [hi0, decide_true, decide_false] at hq
        clear hhi
      rotate_left
      have hi0 : I < 0 := by omega
      rotate_left
      · have HNO := Lib.hid (hno hq)
        have HC := Lib.hid CH
        have HOWN := Lib.hid hown
        have HW := Lib.hid hw
        clear hno hyes hx hK hq CH hown hw hc hle
        go_wp2_with fail
        refine HC.out.mono ?_; rintro r w1 ⟨rfl, hd⟩
        have hb1 := hd.later
        have HOWN1 := Lib.hid (own_later HOWN.out hb1)
        clear hd
        go_wp2_with fail
        go_roundw
        case rel => exact ⟨k + 1, by omega, by go_num, by rw [HNO.out]; exact HOWN1.out, HW.out.trans hb1⟩
        case measure => simp [intOf]; omega
      · have HYES := Lib.hid (hyes hq)
        have HC := Lib.hid CH
        have HOWN := Lib.hid hown
        have HW := Lib.hid hw
        clear hno hyes hx hK hq CH hown hw hc
        go_wp2_with fail
        refine HC.out.mono ?_; rintro r w1 ⟨rfl, hd⟩
        have hb1 := hd.later
        have hown1 := own_later HOWN.out hb1
        have hcell1 := kept_cell hb1 hcell
        have hw1 := HW.out.trans hb1
        have hs1 := hw1.size
        have HB1 := Lib.hid hb1
        clear hd hb1 hcell
        go_wp2_with (at_builtin; refine wpList_append_own _ rfl _ _ 26 rfl w.heap.size 9 i0 (.string ByteArray.empty) 1 16 Try.underlying26 hi hz0 hz1 hz2 rfl (by decide) _ _ _ rfl (hown1.alloc _) ⟨w1.heap.size, 0, none⟩ 1 1 [.string x] rfl rfl ?c1 ?c2 ?c3 ?c4 ?c5 ?_)
        case c1 =>
          intro j u hj
          match j, hj with
          | 0, hj => simp at hj; subst hj; simp [Addr.add]
        case c2 => intro u hu; simp at hu; subst hu; rfl
        case c3 => unfold maxLen; omega
        case c4 => omega
        case c5 => simp; omega
        · intro v' w2 hown2 hgrow2 _
          have hl2 := later_append (hw1.alloc _) (hown1.alloc _) hgrow2
          have HR : Hid (w2.ownsRow w.heap.size 9 1 v' (withoutB (xs.take (k + 1)) ys).length ((withoutB (xs.take (k + 1)) ys).map .string)) := by
            unfold Hid
            rw [HYES.out, List.map_append, List.length_append]
            exact hown2
          have HL := Lib.hid hl2
          clear hown2 hgrow2 hown1 hw1 hl2 hcell1 hs1
          go_wp2_with fail
          go_roundw
          case rel => exact ⟨k + 1, by omega, by go_num, HR.out, HL.out⟩
          case measure => simp [intOf]; omega
    · have e : xs.take k = xs := List.take_of_length_le (by omega)
      rw [e] at hown
      clear e hc
      have HOWN := Lib.hid hown
      clear hown
      go_wp2_with fail
      go_ret
      exact ⟨⟨_, rfl, HOWN.out⟩, hw⟩
end Go.Proofs.Ytnfhbppmbpgfaaa
