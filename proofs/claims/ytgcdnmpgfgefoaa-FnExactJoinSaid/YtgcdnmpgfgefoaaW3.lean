/-
  Rows of strings of the call's own, one beside the other; the law FnExactWithout: its walk.
-/
import Derived.Test.YtgcdnmpgfgefoaaW1
import Derived.Test.YtgcdnmpgfgefoaaW2
namespace Go.Proofs.Ytgcdnmpgfgefoaa
open Go.ChangeShapes Go.WideShapes Go.ChangeAt Go.RowKit
set_option linter.unusedVariables false
set_option linter.unusedSimpArgs false

/-- A row of strings of the call's own, in the blocks from lo to hi. -/
def RowIn (w : World) (lo hi : Nat) (v : Value) (xs : List ByteArray) : Prop := w.ownsRow lo 9 1 v xs.length (xs.map .string) ∧ ∀ g, v.ownBlock = some g → g < hi
theorem rowIn_of_own {w w' : World} {xs : List ByteArray} {e : Ending} (h : OwnS w w' xs e) : ∃ v, e = .returned v ∧ RowIn w' w.heap.size w'.heap.size v xs := by
  obtain ⟨v, he, hv⟩ := h
  exact ⟨v, he, hv, fun g hg => (hv.lt g hg).2⟩
theorem RowIn.later {w w' : World} {lo hi : Nat} {v : Value} {xs : List ByteArray} (h : RowIn w lo hi v xs) (hb : Later w w') : RowIn w' lo hi v xs := ⟨own_later h.1 hb, h.2⟩
theorem RowIn.other {w w' : World} {lo hi lo' hi' : Nat} {v u : Value} {xs ys : List ByteArray} (h : RowIn w lo hi v xs) (m : RowIn w lo' hi' u ys) (hg : w.grownBy w' u.ownBlock) (hd : hi ≤ lo' ∨ hi' ≤ lo) : RowIn w' lo hi v xs := by
  refine ⟨h.1.kept hg ?_, h.2⟩
  cases hv : v.ownBlock with
  | none => exact .inl rfl
  | some g =>
    refine .inr fun e => ?_
    have h1 := h.2 g hv
    have h2 := (h.1.lt g hv).1
    have h3 := m.2 g e.symm
    have h4 := (m.1.lt g e.symm).1
    omega
theorem RowIn.strs {w : World} {lo hi : Nat} {v : Value} {xs : List ByteArray} (h : RowIn w lo hi v xs) (hf : ∀ x ∈ xs, x.size ≤ 9223372036854775807) : Strs w v xs := Strs.of_own hf h.1
theorem RowIn.grown {w w1 w2 : World} {lo hi : Nat} {v : Value} {xs : List ByteArray} (m : RowIn w1 lo hi v xs) (l : Later w w1) (hlo : w.heap.size ≤ lo) (hg : w1.grownBy w2 v.ownBlock) : Later w w2 :=
  Below.grown l hg l.size (fun k hk => Nat.le_trans hlo (m.1.lt k hk).1)
theorem markRow {w : World} {lo hi : Nat} {v : Value} {xs : List ByteArray} (m : RowIn w lo hi v xs) (k P : Nat) (hP : P = k + xs.length) (hk : P ≤ 4194304) :
    Calls Try.prog 28 #[v, .int .i64 k] w fun r w' => r = .returned (.int .i64 P) ∧ RowIn w' lo hi v (marksL k xs.length) ∧ w.grownBy w' v.ownBlock := by
  refine (markStringS lo xs.length k v _ w m.1 (by omega)).mono ?_
  rintro r w' ⟨rfl, h1, h2⟩
  refine ⟨by rw [hP], ⟨?_, m.2⟩, h2⟩
  rw [length_marksL]
  exact h1
theorem heldRow {w : World} {lo hi : Nat} {v : Value} (k n P : Nat) (m : RowIn w lo hi v (marksL k n)) (hP : P = k + n) (hk : P ≤ 4194304) :
    Calls Try.prog 29 #[v, .int .i64 k] w fun r w' => r = .returned (.int .i64 P) ∧ Later w w' := by
  have h := m.1
  rw [length_marksL] at h
  refine (heldStringS lo n k v w h (by omega)).mono ?_
  rintro r w' ⟨rfl, h2⟩
  exact ⟨by rw [hP], h2⟩
theorem eqRow {w : World} {v u : Value} {xs : List ByteArray} (h : Strs w v xs) (h' : Strs w u xs) : Calls Try.prog 27 #[v, u] w fun e w' => e = .returned (.bool true) ∧ Later w w' := by
  refine (eqStringS v u xs xs w h h').mono ?_
  rintro r w' ⟨rfl, hd⟩
  exact ⟨by simp [eqS], hd.later⟩
theorem copyRow {w : World} {v : Value} {xs : List ByteArray} (h : Strs w v xs) (hn : xs.length ≤ 1048576) : Calls Try.prog 25 #[v] w fun e w' => (∃ a, e = .returned a ∧ RowIn w' w.heap.size w'.heap.size a xs) ∧ Later w w' := by
  refine (toStringS v xs w h hn).mono ?_
  rintro r w' ⟨h1, h2⟩
  exact ⟨rowIn_of_own h1, h2⟩

set_option maxHeartbeats 2000000 in
theorem walk_FnExactWithout (v : Value) (xs : List ByteArray) (u : Value) (ys : List ByteArray) (w : World) (h : Strs w v xs) (h' : Strs w u ys) : Calls Try.prog 8 #[v, u] w fun r w' => r = .returned (.bool true) ∧ Later w w' := by
  have C1 := szStringS v xs 1048576 w h (by omega) (by omega)
  by_cases hc : costS xs ≤ 1048576
  · rw [szR_small (by omega)] at C1
    have hp : (0 : Int) ≤ 1048576 - (costS xs : Int) := by omega
    have C2 := fun W hW => szStringS u ys (1048576 - (costS xs : Int)) W (h'.later hW) hp (by omega)
    by_cases hc' : (costS ys : Int) ≤ 1048576 - (costS xs : Int)
    · have hnx : xs.length ≤ 1048576 := by unfold costS at hc; omega
      have hny : ys.length ≤ 1048576 := by unfold costS at hc'; omega
      have hp2 : (0 : Int) ≤ 1048576 - (costS xs : Int) - (costS ys : Int) := by omega
      simp only [szR_small hc'] at C2
      have hfx := h.1.2
      have hfk : ∀ x ∈ withoutB xs ys, x.size ≤ 9223372036854775807 := fun x hx => hfx x (List.mem_filter.1 hx).1
      have hnk := without_le xs ys
      obtain ⟨c1, hc1⟩ : ∃ c1 : Int, c1 = (costS xs : Int) := ⟨_, rfl⟩
      obtain ⟨c2, hc2⟩ : ∃ c2 : Int, c2 = (costS ys : Int) := ⟨_, rfl⟩
      rw [← hc1] at C1 C2 hp hp2
      rw [← hc2] at hp2
      simp only [← hc2] at C2
      have CA := fun W hW => copyRow (w := W) (h.later hW) hnx
      have CB := fun W hW => copyRow (w := W) (h'.later hW) hny
      have CS := fun W a b (ha : Strs W a xs) (hb : Strs W b ys) => specWithout a b xs ys W ha hb hnx
      have CI := fun W a b (ha : Strs W a xs) (hb : Strs W b ys) => implWithout a b xs ys W ha hb hnx
      have hfy := h'.1.2
      obtain ⟨K, hK⟩ : ∃ K, K = withoutB xs ys := ⟨_, rfl⟩
      rw [← hK] at CS CI hfk hnk
      obtain ⟨P1, hP1⟩ : ∃ P : Nat, P = 1 + xs.length := ⟨_, rfl⟩
      obtain ⟨P2, hP2⟩ : ∃ P : Nat, P = P1 + ys.length := ⟨_, rfl⟩
      obtain ⟨P3, hP3⟩ : ∃ P : Nat, P = 1 + K.length := ⟨_, rfl⟩
      have Hx := Lib.hid hfx; have Hy := Lib.hid hfy; have Hk := Lib.hid hfk
      have H1 := Lib.hid C1; have H2 := Lib.hid C2; have HA := Lib.hid CA; have HB := Lib.hid CB; have HS := Lib.hid CS; have HI := Lib.hid CI
      have HP : Hid (P1 = 1 + xs.length ∧ P2 = P1 + ys.length ∧ P3 = 1 + K.length ∧ P1 ≤ 4194304 ∧ P2 ≤ 4194304 ∧ P3 ≤ 4194304) := ⟨hP1, hP2, hP3, by omega, by omega, by omega⟩
      clear C1 C2 CA CB CS CI hfx hfy hfk hc hc' hnx hny hnk hc1 hc2 hK hP1 hP2 hP3 h h'
      go_enter Try.func8, Try.ntmps8
      go_wp2_with fail
      refine H1.out.mono ?_; rintro r w1 ⟨rfl, hd⟩
      have L := Lib.hid hd.later; clear hd
      go_wp2_with fail
      refine (H2.out _ L.out).mono ?_; rintro r w2 ⟨rfl, hd⟩
      replace L := Lib.hid (L.out.trans hd.later); clear hd
      go_wp2_with fail
      refine (HA.out _ L.out).mono ?_; rintro r w3 ⟨⟨a1, rfl, ha1⟩, hb⟩
      replace L := Lib.hid (L.out.trans hb)
      replace ha1 := Lib.hid ha1; clear hb
      go_wp2_with fail
      refine (HB.out _ L.out).mono ?_; rintro r w4 ⟨⟨a2, rfl, ha2⟩, hb⟩
      replace L := Lib.hid (L.out.trans hb)
      replace ha1 := Lib.hid (ha1.out.later hb)
      replace ha2 := Lib.hid ha2; clear hb
      go_wp2_with fail
      refine (HS.out _ _ _ (ha1.out.strs Hx.out) (ha2.out.strs Hy.out)).mono ?_; rintro r w5 ⟨ho, hb⟩
      obtain ⟨g, rfl, hg⟩ := rowIn_of_own ho
      have B5 := Lib.hid L.out.size
      replace L := Lib.hid (L.out.trans hb)
      have hw0 := Lib.hid hg; clear hb ho hg ha1 ha2
      go_wp2_with fail
      refine (HA.out _ L.out).mono ?_; rintro r w6 ⟨⟨x0, rfl, hx0⟩, hb⟩
      have B6 := Lib.hid L.out.size
      have S56 := Lib.hid hb.size
      replace L := Lib.hid (L.out.trans hb)
      replace hw0 := Lib.hid (hw0.out.later hb)
      replace hx0 := Lib.hid hx0; clear hb
      go_wp2_with fail
      refine (HB.out _ L.out).mono ?_; rintro r w7 ⟨⟨x1, rfl, hx1⟩, hb⟩
      have B7 := Lib.hid L.out.size
      have S67 := Lib.hid hb.size
      replace L := Lib.hid (L.out.trans hb)
      replace hw0 := Lib.hid (hw0.out.later hb)
      replace hx0 := Lib.hid (hx0.out.later hb)
      replace hx1 := Lib.hid hx1; clear hb
      go_wp2_with fail
      refine (HI.out _ _ _ (hx0.out.strs Hx.out) (hx1.out.strs Hy.out)).mono ?_; rintro r w8 ⟨ho, hb⟩
      obtain ⟨g0, rfl, hg0⟩ := rowIn_of_own ho
      have B8 := Lib.hid L.out.size
      replace L := Lib.hid (L.out.trans hb)
      replace hw0 := Lib.hid (hw0.out.later hb)
      replace hx0 := Lib.hid (hx0.out.later hb)
      replace hx1 := Lib.hid (hx1.out.later hb)
      replace hg0 := Lib.hid hg0; clear hb ho
      go_wp2_with fail
      refine (eqRow (hg0.out.strs Hk.out) (hw0.out.strs Hk.out)).mono ?_; rintro r w9 ⟨rfl, hb⟩
      replace L := Lib.hid (L.out.trans hb)
      replace hw0 := Lib.hid (hw0.out.later hb)
      replace hx0 := Lib.hid (hx0.out.later hb)
      replace hx1 := Lib.hid (hx1.out.later hb)
      replace hg0 := Lib.hid (hg0.out.later hb); clear hb
      go_wp2_with fail
      refine (HA.out _ L.out).mono ?_; rintro r w10 ⟨⟨b1, rfl, hb1⟩, hb⟩
      replace L := Lib.hid (L.out.trans hb)
      replace hw0 := Lib.hid (hw0.out.later hb)
      replace hx0 := Lib.hid (hx0.out.later hb)
      replace hx1 := Lib.hid (hx1.out.later hb)
      replace hg0 := Lib.hid (hg0.out.later hb)
      replace hb1 := Lib.hid hb1; clear hb
      go_wp2_with fail
      refine (eqRow (hx0.out.strs Hx.out) (hb1.out.strs Hx.out)).mono ?_; rintro r w11 ⟨rfl, hb⟩
      replace L := Lib.hid (L.out.trans hb)
      replace hw0 := Lib.hid (hw0.out.later hb)
      replace hx0 := Lib.hid (hx0.out.later hb)
      replace hx1 := Lib.hid (hx1.out.later hb)
      replace hg0 := Lib.hid (hg0.out.later hb); clear hb hb1
      go_wp2_with fail
      refine (HB.out _ L.out).mono ?_; rintro r w12 ⟨⟨b2, rfl, hb2⟩, hb⟩
      replace L := Lib.hid (L.out.trans hb)
      replace hw0 := Lib.hid (hw0.out.later hb)
      replace hx0 := Lib.hid (hx0.out.later hb)
      replace hx1 := Lib.hid (hx1.out.later hb)
      replace hg0 := Lib.hid (hg0.out.later hb)
      replace hb2 := Lib.hid hb2; clear hb
      go_wp2_with fail
      refine (eqRow (hx1.out.strs Hy.out) (hb2.out.strs Hy.out)).mono ?_; rintro r w13 ⟨rfl, hb⟩
      replace L := Lib.hid (L.out.trans hb)
      replace hw0 := Lib.hid (hw0.out.later hb)
      replace hx0 := Lib.hid (hx0.out.later hb)
      replace hx1 := Lib.hid (hx1.out.later hb)
      replace hg0 := Lib.hid (hg0.out.later hb); clear hb hb2
      go_wp2_with fail
      refine (markRow hx0.out 1 P1 HP.out.1 HP.out.2.2.2.1).mono ?_; rintro r w14 ⟨rfl, hm, hg⟩
      replace L := Lib.hid (hx0.out.grown L.out B6.out hg)
      replace hw0 := Lib.hid (hw0.out.other hx0.out hg (.inl (Nat.le_refl _)))
      replace hx1 := Lib.hid (hx1.out.other hx0.out hg (.inr (Nat.le_refl _)))
      replace hg0 := Lib.hid (hg0.out.other hx0.out hg (.inr S67.out)); clear hg hm hx0
      go_wp2_with fail
      refine (markRow hx1.out P1 P2 HP.out.2.1 HP.out.2.2.2.2.1).mono ?_; rintro r w15 ⟨rfl, hm, hg⟩
      replace L := Lib.hid (hx1.out.grown L.out B7.out hg)
      replace hw0 := Lib.hid (hw0.out.other hx1.out hg (.inl S56.out))
      replace hg0 := Lib.hid (hg0.out.other hx1.out hg (.inr (Nat.le_refl _))); clear hg hm hx1
      have hP2 : (0 : Int) ≤ (P2 : Int) := by omega
      go_wp2_with fail
      refine (eqRow (hg0.out.strs Hk.out) (hw0.out.strs Hk.out)).mono ?_; rintro r w16 ⟨rfl, hb⟩
      replace L := Lib.hid (L.out.trans hb)
      replace hw0 := Lib.hid (hw0.out.later hb)
      replace hg0 := Lib.hid (hg0.out.later hb); clear hb
      go_wp2_with fail
      refine (markRow hg0.out 1 P3 HP.out.2.2.1 HP.out.2.2.2.2.2).mono ?_; rintro r w17 ⟨rfl, hm, hg⟩
      replace L := Lib.hid (hg0.out.grown L.out B8.out hg)
      replace hw0 := Lib.hid (hw0.out.other hg0.out hg (.inl (Nat.le_trans S56.out S67.out)))
      replace hg0 := Lib.hid hm; clear hg hm
      have hP3 : (0 : Int) ≤ (P3 : Int) := by omega
      go_wp2_with fail
      refine (heldRow 1 _ P3 hg0.out HP.out.2.2.1 HP.out.2.2.2.2.2).mono ?_; rintro r w18 ⟨rfl, hb⟩
      replace L := Lib.hid (L.out.trans hb)
      replace hw0 := Lib.hid (hw0.out.later hb)
      replace hg0 := Lib.hid (hg0.out.later hb); clear hb
      go_wp2_with fail
      refine (HA.out _ L.out).mono ?_; rintro r w19 ⟨⟨d1, rfl, hd1⟩, hb⟩
      replace L := Lib.hid (L.out.trans hb)
      replace hw0 := Lib.hid (hw0.out.later hb)
      replace hg0 := Lib.hid (hg0.out.later hb)
      replace hd1 := Lib.hid hd1; clear hb
      go_wp2_with fail
      refine (HB.out _ L.out).mono ?_; rintro r w20 ⟨⟨d2, rfl, hd2⟩, hb⟩
      replace L := Lib.hid (L.out.trans hb)
      replace hw0 := Lib.hid (hw0.out.later hb)
      replace hg0 := Lib.hid (hg0.out.later hb)
      replace hd1 := Lib.hid (hd1.out.later hb)
      replace hd2 := Lib.hid hd2; clear hb
      go_wp2_with fail
      refine (HI.out _ _ _ (hd1.out.strs Hx.out) (hd2.out.strs Hy.out)).mono ?_; rintro r w21 ⟨ho, hb⟩
      obtain ⟨h0, rfl, hh0⟩ := rowIn_of_own ho
      replace L := Lib.hid (L.out.trans hb)
      replace hw0 := Lib.hid (hw0.out.later hb)
      replace hg0 := Lib.hid (hg0.out.later hb)
      replace hh0 := Lib.hid hh0; clear hb ho hd1 hd2
      go_wp2_with fail
      refine (eqRow (hh0.out.strs Hk.out) (hw0.out.strs Hk.out)).mono ?_; rintro r w22 ⟨rfl, hb⟩
      replace L := Lib.hid (L.out.trans hb)
      replace hg0 := Lib.hid (hg0.out.later hb); clear hb
      go_wp2_with fail
      refine (heldRow 1 _ P3 hg0.out HP.out.2.2.1 HP.out.2.2.2.2.2).mono ?_; rintro r w23 ⟨rfl, hb⟩
      replace L := Lib.hid (L.out.trans hb); clear hb
      go_wp2_with fail
      go_ret
      exact ⟨rfl, L.out⟩
    · have hneg : szR (1048576 - (costS xs : Int)) (costS ys) = -1 := szR_big (by omega)
      simp only [hneg] at C2
      obtain ⟨c1, hc1⟩ : ∃ c1 : Int, c1 = (costS xs : Int) := ⟨_, rfl⟩
      rw [← hc1] at C1 hp
      simp only [← hc1] at C2
      have H1 := Lib.hid C1; have H2 := Lib.hid C2
      clear C1 C2 hc hc' hneg hc1 h h'
      go_enter Try.func8, Try.ntmps8
      go_wp2_with fail
      refine H1.out.mono ?_; rintro r w1 ⟨rfl, hd⟩
      have L := Lib.hid hd.later; clear hd
      go_wp2_with fail
      refine (H2.out _ L.out).mono ?_; rintro r w2 ⟨rfl, hd⟩
      replace L := Lib.hid (L.out.trans hd.later); clear hd
      go_wp2_with fail
      go_ret
      exact ⟨rfl, L.out⟩
  · rw [szR_big (by omega)] at C1
    have H1 := Lib.hid C1
    clear C1 hc h h'
    go_enter Try.func8, Try.ntmps8
    go_wp2_with fail
    refine H1.out.mono ?_; rintro r w1 ⟨rfl, hd⟩
    have L := Lib.hid hd.later; clear hd
    go_wp2_with fail
    go_ret
    exact ⟨rfl, L.out⟩
end Go.Proofs.Ytgcdnmpgfgefoaa
