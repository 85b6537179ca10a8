/-
  The laws' own helpers on lists of strings: szStringS, eqStringS, toStringS; AllDistinct.
-/
import Derived.Test.YtnfhbppmbpgfaaaDoorA3
namespace Go.Proofs.YtnfhbppmbpgfaaaDoor
open Go.ChangeShapes Go.WideShapes Go.ChangeAt Go.RowKit
set_option linter.unusedVariables false
set_option linter.unusedSimpArgs false

theorem eqStringS (v u : Value) (xs ys : List ByteArray) (w : World) (h : Strs w v xs) (h' : Strs w u ys) :
    Calls Tryd.prog 29 #[v, u] w fun e w' => e = .returned (.bool (eqS xs ys)) ∧ Draws w w' := by
  obtain ⟨⟨hm, hf⟩, A, c, rfl, hlc, hcm, hc⟩ := h
  have HF := Lib.hid hf; clear hf
  obtain ⟨⟨hm', _⟩, A', c', rfl, hlc', hcm', hc'⟩ := h'
  by_cases hl : xs.length = ys.length
  · have hle : ((xs.length : Int) != (ys.length : Int)) = false := by simp [hl]
    have HL : Hid (xs.length = ys.length) := hl
    clear hl
    go_enter Tryd.func29, Tryd.ntmps29
    go_wp2
    go_loopw [5] (fun i wr => ∃ k : Nat, k ≤ xs.length ∧ i = .int .i64 k ∧ (∀ j, (hj : j < xs.length) → (hj' : j < ys.length) → j < k → (xs[j].toList == ys[j].toList) = true) ∧ Draws w wr) (fun i _ => xs.length - (intOf i).toNat)
    case atStart => exact ⟨0, Nat.zero_le _, rfl, fun j _ _ h => absurd h (by omega), Draws.rfl' _⟩
    case round =>
      obtain ⟨k, hk, rfl, hall, hw⟩ := hrel
      have HA : Hid (∀ j, (hj : j < xs.length) → (hj' : j < ys.length) → j < k → (xs[j].toList == ys[j].toList) = true) := hall
      clear hall
      by_cases hlt : k < xs.length
      · have hlt' : k < ys.length := by have := HL.out; omega
        obtain ⟨b, off, rfl, hb, hcell⟩ := (hc.later hw.later).at_ (k := k) (by simpa using hlt)
        obtain ⟨b', off', rfl, hb', hcell'⟩ := (hc'.later hw.later).at_ (k := k) (by simpa using hlt')
        simp only [List.getElem_map] at hcell hcell'
        obtain ⟨x, hx⟩ : ∃ x, x = xs[k] := ⟨_, rfl⟩
        obtain ⟨y, hy⟩ : ∃ x, x = ys[k] := ⟨_, rfl⟩
        rw [← hx] at hcell
        rw [← hy] at hcell'
        have HX : Hid (x = xs[k]) := hx
        have HY : Hid (y = ys[k]) := hy
        have hki : (k : Int) < (xs.length : Int) := by omega
        have hki' : (k : Int) < (ys.length : Int) := by omega
        clear hx hy hc hc'
        cases hq : (x.toList == y.toList) with
        | true =>
          have HQ : Hid ((x.toList == y.toList) = true) := hq
          go_wp2
          go_quiet (fail)
          go_wp2
          go_roundw
          case rel => exact ⟨k + 1, by omega, by go_num, fun j hj hj' hjk => if e : j = k then by subst e; rw [← HX.out, ← HY.out]; exact HQ.out else HA.out j hj hj' (by omega), hw.trans (Draws.drewN _ _)⟩
          case measure => simp [intOf]; omega
        | false =>
          have HV : Hid (eqS xs ys = false) := eqS_at hlt hlt' (by rw [← HX.out, ← HY.out]; exact hq)
          go_wp2
          go_quiet (fail)
          go_wp2
          go_ret
          exact ⟨ret_bool HV.out.symm, hw.trans (Draws.drewN _ _)⟩
      · clear hc hc'
        have HV : Hid (eqS xs ys = true) := eqS_all HL.out fun j hj hj' => HA.out j hj hj' (by omega)
        go_wp2
        go_ret
        exact ⟨ret_bool HV.out.symm, hw⟩
  · have hle : ((xs.length : Int) != (ys.length : Int)) = true := by simp; omega
    have HV : Hid (eqS xs ys = false) := eqS_len hl
    clear hl
    go_enter Tryd.func29, Tryd.ntmps29
    go_wp2
    go_ret
    exact ⟨ret_bool HV.out.symm, Draws.rfl' _⟩

/-- A slice of strings of the call's own. -/
def OwnS (w w' : World) (xs : List ByteArray) (e : Ending) : Prop := ∃ v, e = .returned v ∧ w'.ownsRow w.heap.size 9 1 v xs.length (xs.map .string)

theorem info_string : (Tryd.prog.info? 9).map (fun i => (i.zero, i.size, i.bytes)) = some (some (.string ByteArray.empty), 1, 16) := by kernel_rfl
end Go.Proofs.YtnfhbppmbpgfaaaDoor
