/-
  The law FnValidNames: its walk.
-/
import Derived.Test.YthoflpaogfdkoaaK3
import Derived.Test.YthoflpaogfdkoaaA7
namespace Go.Proofs.Ythoflpaogfdkoaa
open Go.ChangeShapes Go.WideShapes Go.ChangeAt Go.RowKit
set_option linter.unusedVariables false
set_option linter.unusedSimpArgs false
set_option maxRecDepth 100000

theorem own_row_strs {w : World} {lo e : Nat} {v : Value} {xs : List ByteArray} (h : w.ownsRow lo e 1 v xs.length (xs.map .string)) (hf : ∀ x ∈ xs, x.size ≤ 9223372036854775807) : Strs w v xs :=
  sl_strs (own_strs (S := anyB) h hf fun _ _ => trivial).at_
theorem SmallL.strs {lo : Nat} {w : World} {v : Value} {xs : List ByteArray} (h : SmallL lo w v xs) : Strs w v xs :=
  own_row_strs h.1 fun x hx => by have := h.2.2 x hx; omega
theorem SmallL.chg {lo g : Nat} {w w' : World} {v : Value} {xs : List ByteArray} (h : SmallL lo w v xs) (c : Chg (onlyB g) w w') (hg : g < lo) : SmallL lo w' v xs :=
  ⟨row_block h.1 fun k hk => c.block k (h.1.lt k hk).2 (by have := (h.1.lt k hk).1; unfold onlyB; omega), h.2⟩

theorem sameTextsC (xs : List ByteArray) (v u : Value) (W : World) (h : Strs W v xs) (h' : Strs W u xs) : Calls Try.prog 65 #[v, u] W fun e w' => e = .returned (.bool true) ∧ Later W w' := by
  obtain ⟨_, A, c, rfl, hlc, hcm, hc⟩ := h
  obtain ⟨_, A', c', rfl, hlc', hcm', hc'⟩ := h'
  have hle : ((xs.length : Int) != (xs.length : Int)) = false := by simp
  have HC := Lib.hid hc; have HC' := Lib.hid hc'
  clear hc hc'
  go_enter Try.func65, Try.ntmps65
  go_wp2_with fail
  go_loopw [5] (fun i wr => ∃ j : Nat, j ≤ xs.length ∧ i = .int .i64 j ∧ Later W wr) (fun i _ => xs.length - (intOf i).toNat)
  case atStart => exact ⟨0, Nat.zero_le _, rfl, Later.rfl' _⟩
  case round =>
    obtain ⟨j, hj, rfl, hw⟩ := hrel
    by_cases hlt : j < xs.length
    · obtain ⟨b, off, rfl, hb, e0⟩ := (HC.out.later hw).at_ (k := j) (by simpa using hlt)
      obtain ⟨b', off', rfl, hb', e1⟩ := (HC'.out.later hw).at_ (k := j) (by simpa using hlt)
      simp only [List.getElem_map] at e0 e1
      obtain ⟨X, hX⟩ : ∃ x, x = xs[j] := ⟨_, rfl⟩
      rw [← hX] at e0 e1
      have hki : (j : Int) < (xs.length : Int) := by omega
      have HW := Lib.hid hw
      clear hX hw
      go_wp2
      go_quiet (fail)
      go_wp2
      go_roundw
      case rel => exact ⟨j + 1, by omega, by go_num, HW.out.trans (Later.drewN _ _)⟩
      case measure => simp [intOf]; omega
    · go_wp2
      go_ret
      exact ⟨rfl, hw⟩

theorem without_self (xs : List ByteArray) : withoutB xs xs = [] := by
  unfold withoutB
  rw [List.filter_eq_nil_iff]
  intro x hx
  have : hasB xs x = true := (hasB_iff xs x).2 (List.mem_map_of_mem hx)
  simp [this]
theorem without_again (xs ys : List ByteArray) : withoutB (withoutB xs ys) ys = withoutB xs ys := by
  unfold withoutB
  rw [List.filter_filter]
  simp
theorem without_index {xs ys : List ByteArray} {x : ByteArray} (h : x ∈ withoutB xs ys) : indexB ys x < 0 := by
  have h1 : hasB ys x = false := by
    have := (List.mem_filter.1 h).2
    simpa using this
  have := has_index ys x
  rw [h1] at this
  simp at this
  omega
theorem valid_not {s : ByteArray} (h : validName s = true) : isReserved s = false := by
  unfold validName at h
  simp at h
  exact h.2

end Go.Proofs.Ythoflpaogfdkoaa
