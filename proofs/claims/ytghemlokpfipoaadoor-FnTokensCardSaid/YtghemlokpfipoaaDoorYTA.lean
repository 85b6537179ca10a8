/-
  Tokens in slices: szTokenS, toTokenS, eqTokenS: the walks.
-/
import Derived.Test.YtghemlokpfipoaaDoorYMD
namespace Go.Proofs.YtghemlokpfipoaaDoor
open Go.ChangeShapes Go.WideShapes Go.ChangeAt Go.RowKit
set_option linter.unusedVariables false
set_option linter.unusedSimpArgs false
set_option maxRecDepth 100000

theorem SlAt.tokAt {w : World} {S : Nat → Prop} {l : List Tk} {A : Option Addr} {n c : Nat} (h : SlAt w S 4 encT l (.slice A n c)) {i : Nat} (hi : i < l.length) :
    ∃ b off, A = some ⟨b, off, none⟩ ∧ b < w.heap.size ∧ S b ∧ w.cell? ⟨b, off + i * 4, none⟩ = some (.int .i64 l[i].kind) ∧ w.cell? ⟨b, off + i * 4 + 1, none⟩ = some (.int .i64 l[i].n) ∧ w.cell? ⟨b, off + i * 4 + 2, none⟩ = some (.int .i64 l[i].at_) ∧ w.cell? ⟨b, off + i * 4 + 3, none⟩ = some (.string l[i].text) ∧
      Between64 l[i].kind ∧ Between64 l[i].n ∧ Between64 l[i].at_ ∧ l[i].text.size ≤ 9223372036854775807 := by
  obtain ⟨b, off, e, hl, hs, hc⟩ := h.elem encT_len hi (by omega)
  obtain ⟨u0, g0, a0⟩ := hc 0 _ (by omega) rfl
  obtain ⟨u1, g1, a1⟩ := hc 1 _ (by omega) rfl
  obtain ⟨u2, g2, a2⟩ := hc 2 _ (by omega) rfl
  obtain ⟨u3, g3, a3⟩ := hc 3 _ (by omega) rfl
  obtain ⟨rfl, b0⟩ := a0.int_inv
  obtain ⟨rfl, b1⟩ := a1.int_inv
  obtain ⟨rfl, b2⟩ := a2.int_inv
  obtain ⟨rfl, b3⟩ := a3.str_inv
  simp only [Nat.add_assoc] at g0 g1 g2 g3 ⊢
  exact ⟨b, off, e, hl, hs, by simpa using g0, g1, g2, g3, b0, b1, b2, b3⟩
section
variable {H : Type} {enc : TypeId × Value → H} {w : World} {sp : Nat → Bool} {held : Bool}
end
theorem info_token : (Tryd.prog.info? 33).map (fun i => (i.zero, i.size, i.bytes)) = some (some (.agg #[.int .i64 0, .int .i64 0, .int .i64 0, .string ByteArray.empty]), 4, 40) := by kernel_rfl

theorem eqTk (k n a : Int) (t : ByteArray) (W : World) : Calls Tryd.prog 18 #[.agg #[.int .i64 k, .int .i64 n, .int .i64 a, .string t], .agg #[.int .i64 k, .int .i64 n, .int .i64 a, .string t]] W fun r w' => r = .returned (.bool true) ∧ Later W w' := by
  go_enter Tryd.func18, Tryd.ntmps18
  go_wp2_with fail
  go_ret
  exact ⟨rfl, ((Later.rfl' _).alloc _).alloc _⟩

def Tk.cost (t : Tk) : Nat := t.text.size
theorem eqTokenS (l : List Tk) (W : World) (S S' : Nat → Prop) (v u : Value) (h : SlAt W S 4 encT l v) (h' : SlAt W S' 4 encT l u) : Calls Tryd.prog 7 #[v, u] W fun r w' => r = .returned (.bool true) ∧ Later W w' := by
  obtain ⟨A, c, rfl, hlc, hcm⟩ := sl_parts h
  obtain ⟨A', c', rfl, hlc', hcm'⟩ := sl_parts h'
  have HE := Lib.hid h; have HE' := Lib.hid h'; clear h h'
  go_enter Tryd.func7, Tryd.ntmps7
  go_wp2
  go_loopw [5] (fun i wr => ∃ j : Nat, j ≤ l.length ∧ i = .int .i64 j ∧ Later W wr) (fun i _ => l.length - (intOf i).toNat)
  case atStart => exact ⟨0, Nat.zero_le _, rfl, Later.rfl' _⟩
  case round =>
    obtain ⟨j, hj, rfl, hw⟩ := hrel
    by_cases hlt : j < l.length
    · obtain ⟨b, off, rfl, hb, _, e0, e1, e2, e3, _⟩ := (HE.out.later hw).tokAt hlt
      obtain ⟨b', off', rfl, hb', _, e0', e1', e2', e3', _⟩ := (HE'.out.later hw).tokAt hlt
      have hki : (j : Int) < (l.length : Int) := by omega
      obtain ⟨⟨y0, y1, y2, y3⟩, hX⟩ : ∃ X, X = l[j] := ⟨_, rfl⟩
      rw [← hX] at e0 e0' e1 e1' e2 e2' e3 e3'
      simp only at e0 e0' e1 e1' e2 e2' e3 e3'
      have HW := Lib.hid hw
      clear hX hw
      go_wp2
      go_still_tail 8, (by kernel_rfl)
      go_wp2_with fail
      refine (eqTk _ _ _ _ _).mono ?_; rintro r w1 ⟨rfl, hb1⟩
      go_wp2_with fail
      go_roundw
      case rel => exact ⟨j + 1, by omega, by go_num, HW.out.trans ((Later.rfl' _).drew.trans hb1)⟩
      case measure => simp [intOf]; omega
    · go_wp2
      go_ret
      exact ⟨rfl, hw⟩
end Go.Proofs.YtghemlokpfipoaaDoor
