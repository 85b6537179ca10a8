/-
  impl.SortNames: the walk, over the library's contract of sort.Strings.
-/
import Derived.Test.YthjabeoafdohjaaSO1
import Derived.Test.YthjabeoafdohjaaS4
import Derived.Test.YthjabeoafdohjaaW1
namespace Go.Proofs.Ythjabeoafdohjaa
open Go.ChangeShapes Go.WideShapes Go.ChangeAt Go.RowKit
set_option linter.unusedVariables false
set_option linter.unusedSimpArgs false

/-- A row of strings of the call's own, sorted by the library. -/
theorem sorted_row {w w1 : World} {base e g cap n : Nat} {os : Array Obj} {ks : List (List UInt8)} (h : w.ownsRow base e 1 (.slice (some ⟨g, 0, none⟩) ks.length cap) ks.length (ks.map encStr))
    (hw1 : w1 = Go.Sort.grow (Go.Sort.putRow encStr (Go.Sort.ahead w n) g 0 (ks.mergeSort fun x y => decide (x ≤ y)).toArray) os) :
    w1.ownsRow base e 1 (.slice (some ⟨g, 0, none⟩) ks.length cap) ks.length ((ks.mergeSort fun x y => decide (x ≤ y)).map encStr) ∧ w.grownBy w1 (some g) := by
  subst hw1
  refine ⟨?_, grownBy_sorted _⟩
  rcases h.2 with ⟨h0, _⟩ | ⟨g', cap', cur, hv, hbase, hb, h1, h2, h3, h4⟩
  · cases h0
  cases hv
  exact ownsRow_sorted (by simp) hbase hb h1 h2 h3
theorem sorted_holds {w : World} {base e g cap : Nat} {ks : List (List UInt8)} (h : w.ownsRow base e 1 (.slice (some ⟨g, 0, none⟩) ks.length cap) ks.length (ks.map encStr)) : Go.Sort.Holds encStr w g 0 ks.toArray ∧ g < w.heap.size := by
  rcases h.2 with ⟨h0, _⟩ | ⟨g', cap', cur, hv, hbase, hb, h1, h2, h3, h4⟩
  · cases h0
  cases hv
  exact ⟨holds_of_block hb (by simpa using h4), (Array.getElem?_eq_some_iff.1 hb).1⟩

theorem ownsRow_forms {w : World} {base e n : Nat} {v : Value} {xs : List Value} (h : w.ownsRow base e 1 v n xs) : (v = .slice none 0 0 ∧ n = 0) ∨ ∃ g cap, v = .slice (some ⟨g, 0, none⟩) n cap := by
  rcases h.2 with ⟨h0, h1⟩ | ⟨g, cap, cur, hv, _⟩
  · exact .inl ⟨h0, h1⟩
  · exact .inr ⟨g, cap, hv⟩
theorem ownsRow_form {w : World} {base e n : Nat} {v : Value} {xs : List Value} (h : w.ownsRow base e 1 v n xs) (hn : 0 < n) : ∃ g cap, v = .slice (some ⟨g, 0, none⟩) n cap := by
  rcases ownsRow_forms h with ⟨_, h0⟩ | h
  · omega
  · exact h

theorem sortStringsC (v : Value) (xs : List ByteArray) (base : Nat) (w : World) (h : w.ownsRow base 9 1 v (firstsB xs).length ((firstsB xs).map .string)) (hn : xs.length ≤ 1048576) :
    Calls Try.prog 129 #[v] w fun e w' => e = .returned (.tuple #[]) ∧ w'.ownsRow base 9 1 v (sortB xs).length ((sortB xs).map .string) ∧ w.grownBy w' v.ownBlock := by
  rcases Nat.eq_zero_or_pos (firstsB xs).length with h0 | h0
  · have hsb : sortB xs = [] := List.eq_nil_of_length_eq_zero (by rw [length_sortB, h0])
    have hfb : firstsB xs = [] := List.eq_nil_of_length_eq_zero h0
    rw [hsb]
    rw [hfb] at h
    rcases ownsRow_forms h with ⟨rfl, _⟩ | ⟨g, cap, rfl⟩
    all_goals
      refine (Try.sort_Strings_none _ _ _).mono ?_
      rintro e w' ⟨rfl, rfl⟩
      exact ⟨rfl, h, rfl, rfl, rfl, Nat.le_refl _, fun k hk hne => rfl⟩
  · obtain ⟨g, cap, rfl⟩ := ownsRow_form h h0
    have hl : ((firstsB xs).map keyB).length = (firstsB xs).length := by simp
    have hle := firsts_le xs
    rw [firsts_row, ← hl] at h
    obtain ⟨hH, hg⟩ := sorted_holds h
    rw [← hl]
    refine (Try.sort_Strings g 0 cap _ w hH hg (by omega)).mono ?_
    rintro e w' ⟨rfl, n, os, he⟩
    obtain ⟨h1, h2⟩ := sorted_row h he
    refine ⟨rfl, ?_, h2⟩
    rw [sort_row, length_sortB, ← hl]
    exact h1

theorem implSortNames (v : Value) (xs : List ByteArray) (w : World) (h : Strs w v xs) (hn : xs.length ≤ 1048576) :
    Calls Try.prog 59 #[v] w fun e w' => OwnS w w' (sortB xs) e ∧ Later w w' := by
  have HU := Lib.hid h
  obtain ⟨_, A, c, rfl, hlc, hcm, hc⟩ := h
  obtain ⟨i0, hi, hz0, hz1, hz2⟩ := info_parts info_string
  go_enter Try.func59, Try.ntmps59
  go_wp2_with fail
  go_loopw [3, 9] (fun o i wr => ∃ k : Nat, k ≤ xs.length ∧ i = .int .i64 k ∧ wr.ownsRow w.heap.size 9 1 o (firstsB (xs.take k)).length ((firstsB (xs.take k)).map .string) ∧ Later w wr) (fun _ i _ => xs.length - (intOf i).toNat)
  case atStart => exact ⟨0, Nat.zero_le _, rfl, World.ownsRow_made w #[] 0 (Nat.le_refl _) (Nat.zero_le _) rfl, (Later.rfl' _).alloc _⟩
  case round =>
    obtain ⟨k, hk, rfl, hown, hw⟩ := hrel
    by_cases hlt : k < xs.length
    · obtain ⟨b, off, rfl, hb, hcell⟩ := (hc.later hw).at_ (k := k) (by simpa using hlt)
      simp only [List.getElem_map] at hcell
      have CH := implIndexOf _ xs xs[k] wr (HU.out.later hw)
      have hself := index_self hlt
      have hno := firsts_hit hlt
      have hyes := firsts_new hlt
      have hle : (firstsB (xs.take k)).length ≤ 1048576 := by have := firsts_le (xs.take k); rw [List.length_take] at this; omega
      have hki : (k : Int) < (xs.length : Int) := by omega
      obtain ⟨x, hx⟩ : ∃ x, x = xs[k] := ⟨_, rfl⟩
      rw [← hx] at hcell CH hno hyes hself
      obtain ⟨K, hK⟩ : ∃ K, K = firstsB (xs.take k) := ⟨_, rfl⟩
      rw [← hK] at hown hno hyes hle
      obtain ⟨I, hI⟩ : ∃ I, I = indexB xs x := ⟨_, rfl⟩
      rw [← hI] at CH hself
      rcases Bool.eq_false_or_eq_true (hasB (xs.take k) x) with hq | hq
      · have hne : (I == (k : Int)) = false := by
          rw [beq_eq_false_iff_ne]
          intro e
          rw [hself.1 e] at hq
          cases hq
        have HNO := Lib.hid (hno hq)
        have HC := Lib.hid CH
        have HOWN := Lib.hid hown
        have HW := Lib.hid hw
        clear hno hyes hx hK hq CH hown hw hc hle hself hI
        go_wp2_with fail
        refine HC.out.mono ?_; rintro r w1 ⟨rfl, hd⟩
        have hb1 := hd.later
        have HOWN1 := Lib.hid (own_later HOWN.out hb1)
        clear hd
        go_wp2_with fail
        go_roundw
        case rel => exact ⟨k + 1, by omega, by go_num, by rw [HNO.out]; exact HOWN1.out, HW.out.trans hb1⟩
        case measure => simp [intOf]; omega
      · have hne : (I == (k : Int)) = true := by
          rw [beq_iff_eq]
          exact hself.2 hq
        have HYES := Lib.hid (hyes hq)
        have HC := Lib.hid CH
        have HOWN := Lib.hid hown
        have HW := Lib.hid hw
        clear hno hyes hx hK hq CH hown hw hc hself hI
        go_wp2_with fail
        refine HC.out.mono ?_; rintro r w1 ⟨rfl, hd⟩
        have hb1 := hd.later
        have hown1 := own_later HOWN.out hb1
        have hcell1 := kept_cell hb1 hcell
        have hw1 := HW.out.trans hb1
        have hs1 := hw1.size
        have HB1 := Lib.hid hb1
        clear hd hb1 hcell
        go_wp2_with (at_builtin; refine wpList_append_own _ rfl _ _ 25 rfl w.heap.size 9 i0 (.string ByteArray.empty) 1 16 Try.underlying25 hi hz0 hz1 hz2 rfl (by decide) _ _ _ rfl (hown1.alloc _) ⟨w1.heap.size, 0, none⟩ 1 1 [.string x] rfl rfl ?c1 ?c2 ?c3 ?c4 ?c5 ?_)
        case c1 =>
          intro j u hj
          match j, hj with
          | 0, hj => simp at hj; subst hj; simp [Addr.add]
        case c2 => intro u hu; simp at hu; subst hu; rfl
        case c3 => unfold maxLen; omega
        case c4 => omega
        case c5 => simp; omega
        · intro v' w2 hown2 hgrow2 _
          have hl2 := later_append (hw1.alloc _) (hown1.alloc _) hgrow2
          have HR : Hid (w2.ownsRow w.heap.size 9 1 v' (firstsB (xs.take (k + 1))).length ((firstsB (xs.take (k + 1))).map .string)) := by
            unfold Hid
            rw [HYES.out, List.map_append, List.length_append]
            exact hown2
          have HL := Lib.hid hl2
          clear hown2 hgrow2 hown1 hw1 hl2 hcell1 hs1
          go_wp2_with fail
          go_roundw
          case rel => exact ⟨k + 1, by omega, by go_num, HR.out, HL.out⟩
          case measure => simp [intOf]; omega
    · have e : xs.take k = xs := List.take_of_length_le (by omega)
      rw [e] at hown
      have HC := Lib.hid (sortStringsC _ xs _ wr hown hn)
      have HO := Lib.hid hown
      have HW := Lib.hid hw
      clear e hc hown hw
      go_wp2_with fail
      refine HC.out.mono ?_; rintro r w1 ⟨rfl, ho1, hg1⟩
      have HO1 := Lib.hid ho1
      have HW1 := Lib.hid (later_append HW.out HO.out hg1)
      clear ho1 hg1
      go_wp2_with fail
      go_ret
      exact ⟨⟨_, rfl, HO1.out⟩, HW1.out⟩
end Go.Proofs.Ythjabeoafdohjaa
