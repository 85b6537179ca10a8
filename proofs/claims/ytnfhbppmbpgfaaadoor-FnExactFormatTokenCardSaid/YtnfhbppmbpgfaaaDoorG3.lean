/-
  FormatToken: the walks and the law's walk.
-/
import Derived.Test.YtnfhbppmbpgfaaaDoorTok
import Derived.Test.YtnfhbppmbpgfaaaDoorG1
namespace Go.Proofs.YtnfhbppmbpgfaaaDoor
open Go.ChangeShapes Go.WideShapes Go.ChangeAt Go.RowKit
set_option linter.unusedVariables false
set_option linter.unusedSimpArgs false
set_option maxRecDepth 100000

def tokB (d : Tok) : ByteArray := if d.kind = 1 then d.text else if d.kind = 4 then d.text else if d.kind = 2 then itoaB d.n else if d.kind = 3 then ⟨#[34]⟩ ++ d.text ++ ⟨#[34]⟩ else ⟨#[]⟩

set_option maxHeartbeats 1000000 in
theorem specFormatToken (d : Tok) (hf : d.fit) (hs : d.text.size ≤ 1048576) (W : World) : Calls Tryd.prog 24 #[.agg d.cells.toArray] W fun r w' => r = .returned (.string (tokB d)) ∧ Later W w' := by
  obtain ⟨k, n, a, t⟩ := d
  obtain ⟨_, hn, _, _⟩ := hf
  simp only at hn hs
  simp only [Tok.cells]
  have C := fun W' (hW' : Later W W') => specFormatInt n hn W'
  have HC := Lib.hid C
  clear C hn
  by_cases k1 : k = 1
  · subst k1
    have HV : Hid (tokB ⟨1, n, a, t⟩ = t) := rfl
    go_enter Tryd.func24, Tryd.ntmps24
    go_wp2_with fail
    go_ret
    exact ⟨ret_str HV.out.symm, (Later.rfl' _).alloc _⟩
  by_cases k4 : k = 4
  · subst k4
    have HV : Hid (tokB ⟨4, n, a, t⟩ = t) := rfl
    clear k1
    go_enter Tryd.func24, Tryd.ntmps24
    go_wp2_with fail
    go_ret
    exact ⟨ret_str HV.out.symm, (Later.rfl' _).alloc _⟩
  by_cases k2 : k = 2
  · subst k2
    have HV : Hid (tokB ⟨2, n, a, t⟩ = itoaB n) := rfl
    clear k1
    clear k4
    go_enter Tryd.func24, Tryd.ntmps24
    go_wp2_with fail
    refine (HC.out _ ((Later.rfl' _).alloc _)).mono ?_; rintro e w1 ⟨rfl, hb1⟩
    go_wp2_with fail
    go_ret
    exact ⟨ret_str HV.out.symm, ((Later.rfl' _).alloc _).trans hb1⟩
  by_cases k3 : k = 3
  · subst k3
    have HV : Hid (tokB ⟨3, n, a, t⟩ = ⟨#[34]⟩ ++ t ++ ⟨#[34]⟩) := rfl
    clear k1
    clear k4
    clear k2
    go_enter Tryd.func24, Tryd.ntmps24
    go_wp2_with fail
    go_ret
    exact ⟨ret_str HV.out.symm, (Later.rfl' _).alloc _⟩
  have HV : Hid (tokB ⟨k, n, a, t⟩ = ⟨#[]⟩) := by unfold Hid tokB; simp only [k1, k4, k2, k3, if_false]
  have e1 : (k == 1) = false := by simpa using k1
  have e4 : (k == 4) = false := by simpa using k4
  have e2 : (k == 2) = false := by simpa using k2
  have e3 : (k == 3) = false := by simpa using k3
  clear k1 k4 k2 k3
  go_enter Tryd.func24, Tryd.ntmps24
  go_wp2_with fail
  go_ret
  exact ⟨ret_str HV.out.symm, (Later.rfl' _).alloc _⟩

set_option maxHeartbeats 1000000 in
theorem implFormatToken (d : Tok) (hf : d.fit) (hs : d.text.size ≤ 1048576) (W : World) (ht : TabAt W) : Calls Tryd.prog 26 #[.agg d.cells.toArray] W fun r w' => r = .returned (.string (tokB d)) ∧ Later W w' := by
  obtain ⟨k, n, a, t⟩ := d
  obtain ⟨_, hn, _, _⟩ := hf
  simp only at hn hs
  simp only [Tok.cells]
  have C := fun W' (hW' : Later W W') => implFormatInt n hn W' (ht.later hW')
  have HC := Lib.hid C
  clear C hn ht
  by_cases k1 : k = 1
  · subst k1
    have HV : Hid (tokB ⟨1, n, a, t⟩ = t) := rfl
    go_enter Tryd.func26, Tryd.ntmps26
    go_wp2_with fail
    go_ret
    exact ⟨ret_str HV.out.symm, (Later.rfl' _).alloc _⟩
  by_cases k4 : k = 4
  · subst k4
    have HV : Hid (tokB ⟨4, n, a, t⟩ = t) := rfl
    clear k1
    go_enter Tryd.func26, Tryd.ntmps26
    go_wp2_with fail
    go_ret
    exact ⟨ret_str HV.out.symm, (Later.rfl' _).alloc _⟩
  by_cases k2 : k = 2
  · subst k2
    have HV : Hid (tokB ⟨2, n, a, t⟩ = itoaB n) := rfl
    clear k1
    clear k4
    go_enter Tryd.func26, Tryd.ntmps26
    go_wp2_with fail
    refine (HC.out _ ((Later.rfl' _).alloc _)).mono ?_; rintro e w1 ⟨rfl, hb1⟩
    go_wp2_with fail
    go_ret
    exact ⟨ret_str HV.out.symm, ((Later.rfl' _).alloc _).trans hb1⟩
  by_cases k3 : k = 3
  · subst k3
    have HV : Hid (tokB ⟨3, n, a, t⟩ = ⟨#[34]⟩ ++ t ++ ⟨#[34]⟩) := rfl
    clear k1
    clear k4
    clear k2
    go_enter Tryd.func26, Tryd.ntmps26
    go_wp2_with fail
    go_ret
    exact ⟨ret_str HV.out.symm, (Later.rfl' _).alloc _⟩
  have HV : Hid (tokB ⟨k, n, a, t⟩ = ⟨#[]⟩) := by unfold Hid tokB; simp only [k1, k4, k2, k3, if_false]
  have e1 : (k == 1) = false := by simpa using k1
  have e4 : (k == 4) = false := by simpa using k4
  have e2 : (k == 2) = false := by simpa using k2
  have e3 : (k == 3) = false := by simpa using k3
  clear k1 k4 k2 k3
  go_enter Tryd.func26, Tryd.ntmps26
  go_wp2_with fail
  go_ret
  exact ⟨ret_str HV.out.symm, (Later.rfl' _).alloc _⟩

set_option maxHeartbeats 1000000 in
theorem walk_FnExactFormatToken (v : Value) (d : Tok) (w : World) (h : TokAt w v d) (ht : TabAt w) : Calls Tryd.prog 6 #[v] w fun r w' => r = .returned (.bool true) ∧ Later w w' := by
  have C1 := fun W => szToken v d 1048576 W h (by omega) (by omega)
  have C2 := fun W => toToken v d W h
  by_cases hc : d.text.size ≤ 1048576
  · have hsz : szR 1048576 d.text.size = 1048576 - d.text.size := szR_small (by omega)
    rw [hsz] at C1
    have hp : (0 : Int) ≤ 1048576 - (d.text.size : Int) := by omega
    have CS := fun W => specFormatToken d h.2 hc W
    have CI := fun W (hW : Later w W) => implFormatToken d h.2 hc W (ht.later hW)
    obtain ⟨B, hB⟩ : ∃ B, B = tokB d := ⟨_, rfl⟩
    simp only [← hB] at CS CI
    obtain ⟨M, hM⟩ : ∃ M, M = d.text.size := ⟨_, rfl⟩
    simp only [← hM] at C1 hp
    obtain ⟨rfl, _⟩ := h
    obtain ⟨k, n, a, t⟩ := d
    simp only [Tok.cells] at C1 C2 CS CI ⊢
    have H1 := Lib.hid C1; have H2 := Lib.hid C2; have HS := Lib.hid CS; have HI := Lib.hid CI
    clear C1 C2 CS CI hB hM hsz hc ht
    go_enter Tryd.func6, Tryd.ntmps6
    go_wp2_with fail
    refine (H1.out _).mono ?_; rintro e w1 ⟨rfl, hb1⟩
    obtain ⟨a0, a1, a2, a3⟩ := box4 hb1
    have L1 := Lib.hid (((Later.rfl' w).alloc _).trans hb1)
    clear hb1
    go_wp2_with fail
    refine (H2.out _).mono ?_; rintro e w2 ⟨rfl, hb2⟩
    go_wp2_with fail
    refine (HS.out _).mono ?_; rintro e w3 ⟨rfl, hb3⟩
    have b0 := kept_cell (hb2.trans hb3) a0
    have b1 := kept_cell (hb2.trans hb3) a1
    have b2 := kept_cell (hb2.trans hb3) a2
    have b3 := kept_cell (hb2.trans hb3) a3
    have L3 := Lib.hid (L1.out.trans (hb2.trans hb3))
    clear hb2 hb3 a0 a1 a2 a3
    go_wp2_with fail
    refine (H2.out _).mono ?_; rintro e w4 ⟨rfl, hb4⟩
    go_wp2_with fail
    refine (HI.out _ (L3.out.trans hb4)).mono ?_; rintro e w5 ⟨rfl, hb5⟩
    go_wp2_with fail
    go_ret
    exact ⟨rfl, L3.out.trans (hb4.trans hb5)⟩
  · have hsz : szR 1048576 d.text.size = -1 := szR_big (by omega)
    rw [hsz] at C1
    obtain ⟨rfl, _⟩ := h
    clear hsz hc C2
    simp only [Tok.cells] at C1 ⊢
    have HC1 := Lib.hid C1; clear C1
    go_enter Tryd.func6, Tryd.ntmps6
    go_wp2_with fail
    refine (HC1.out _).mono ?_; rintro e w1 ⟨rfl, hb1⟩
    go_wp2_with fail
    go_ret
    exact ⟨rfl, ((Later.rfl' _).alloc _).trans hb1⟩
end Go.Proofs.YtnfhbppmbpgfaaaDoor
