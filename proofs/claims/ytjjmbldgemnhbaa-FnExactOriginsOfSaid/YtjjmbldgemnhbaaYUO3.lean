/-
  The reference's UnionOrigins: its walk.
-/
import Derived.Test.YtjjmbldgemnhbaaYUO2
namespace Go.Proofs.Ytjjmbldgemnhbaa
open Go.ChangeShapes Go.WideShapes Go.ChangeAt Go.RowKit
set_option linter.unusedVariables false
set_option linter.unusedSimpArgs false
set_option maxRecDepth 100000

theorem putsO_next {l xs : List Org} {j : Nat} (hj : j < xs.length) : putsO l (xs.take (j + 1)) = putO xs[j] (putsO l (xs.take j)) := by rw [List.take_succ_eq_append_getElem hj, putsO_snoc]
theorem orgs64_puts {l xs : List Org} (h : Orgs64 l) (k : Orgs64 xs) : Orgs64 (putsO l xs) := fun x hx => by
  rcases mem_putsO.1 hx with h' | h'
  · exact h x h'
  · exact k x h'
theorem orgs64_take {xs : List Org} (h : Orgs64 xs) (j : Nat) : Orgs64 (xs.take j) := fun x hx => h x (List.mem_of_mem_take hx)
theorem orgs64_nil : Orgs64 [] := fun x hx => by simp at hx
/-- What lies in new blocks, and only there. -/
def NewO (W w : World) (l : List Org) (v : Value) : Prop := Own w (fun b => W.heap.size ≤ b ∧ b < w.heap.size) (.sl 2 l.length (l.flatMap encO)) v
theorem NewO.at_ {W w : World} {l : List Org} {v : Value} (h : NewO W w l v) : SlAt w (fun b => W.heap.size ≤ b ∧ b < w.heap.size) 2 encO l v := Own.at_ h

set_option maxHeartbeats 4000000 in
theorem specUnion (a b : List Org) (hl : a.length + b.length ≤ 2097152) (W : World) (S T : Nat → Prop) (v u : Value) (ha : SlAt W S 2 encO a v) (hb : SlAt W T 2 encO b u) : Calls Try.prog 6 #[v, u] W fun r w' => CopyS W w' 2 encO (unionO a b) r ∧ Later W w' := by
  have hfa := Lib.hid (orgs_64 ha)
  have hfb := Lib.hid (orgs_64 hb)
  obtain ⟨A, c, rfl, hlc, hcm⟩ := sl_parts ha
  obtain ⟨B, d, rfl, hld, hdm⟩ := sl_parts hb
  have HA := Lib.hid ha
  have HB := Lib.hid hb
  clear ha hb
  go_enter Try.func6, Try.ntmps6
  go_wp2_with fail
  go_loopw [5, 6] (fun ov iv wr => ∃ j : Nat, j ≤ a.length ∧ iv = .int .i64 j ∧ NewO W wr (putsO [] (a.take j)) ov ∧ Later W wr) (fun _ iv _ => a.length - (intOf iv).toNat)
  case atStart => exact ⟨0, Nat.zero_le _, rfl, ORow.own (l := []) (by have H0 := World.ownsRow_made (base := W.heap.size) (e := 47) (size := 2) W #[] 0 (Nat.le_refl _) (Nat.zero_le _) rfl; simpa [ORow] using H0) orgs64_nil (fun g hg => by simp [Value.ownBlock] at hg; subst hg; simp), (Later.rfl' _).alloc _⟩
  case round =>
    obtain ⟨j, hj, rfl, hown, hw⟩ := hrel
    by_cases hlt : j < a.length
    · obtain ⟨q, off, rfl, hb0, _, k0, k1, kf⟩ := HA.out.origAt hlt
      have e0 := kept_cell hw k0
      have e1 := kept_cell hw k1
      have hnext := putsO_next (l := []) hlt
      have hlen := length_putsO (a.take j) ([])
      rw [List.length_take] at hlen
      obtain ⟨⟨x0, x1⟩, hX⟩ : ∃ x, x = a[j] := ⟨_, rfl⟩
      rw [← hX] at e0 e1 hnext kf
      simp only at e0 e1 kf
      obtain ⟨K, hK⟩ : ∃ K, K = putsO [] (a.take j) := ⟨_, rfl⟩
      rw [← hK] at hnext hlen hown
      have CP := specPut K (x0, x1) (by simp only [List.length_nil] at hlen; omega) kf wr _ _ hown.at_
      simp only at CP
      have HC := Lib.hid CP
      have HN := Lib.hid hnext
      have HW := Lib.hid hw
      have hki : (j : Int) < (a.length : Int) := by omega
      clear CP hnext hK hX hw hown hlen k0 k1 kf
      go_wp2_with fail
      refine HC.out.mono ?_; rintro r w1 ⟨⟨v1, rfl, ho⟩, hb1⟩
      have hz := HW.out.size
      have HO : Hid (NewO W w1 (putO (x0, x1) K) v1) := ho.more fun b h => ⟨by omega, h.2⟩
      have HL := Lib.hid (HW.out.trans hb1)
      clear ho hb1 HC
      go_wp2_with fail
      go_roundw
      case rel => exact ⟨j + 1, by omega, by go_num, by rw [HN.out]; exact HO.out, HL.out⟩
      case measure => simp [intOf]; omega
    · have e : a.take j = a := List.take_of_length_le (by omega)
      rw [e] at hown
      have HO := Lib.hid hown
      have HW := Lib.hid hw
      have hki : ¬ (j : Int) < (a.length : Int) := by omega
      clear e hown hw
      go_wp2_with fail
      go_loopw [5, 7] (fun ov iv wr => ∃ j : Nat, j ≤ b.length ∧ iv = .int .i64 j ∧ NewO W wr (putsO (putsO [] a) (b.take j)) ov ∧ Later W wr) (fun _ iv _ => b.length - (intOf iv).toNat)
      case atStart => exact ⟨0, Nat.zero_le _, rfl, HO.out, HW.out⟩
      case round =>
        obtain ⟨j, hj, rfl, hown, hw⟩ := hrel
        by_cases hlt : j < b.length
        · obtain ⟨q, off, rfl, hb0, _, k0, k1, kf⟩ := HB.out.origAt hlt
          have e0 := kept_cell hw k0
          have e1 := kept_cell hw k1
          have hnext := putsO_next (l := (putsO [] a)) hlt
          have hlen := length_putsO (b.take j) ((putsO [] a))
          rw [List.length_take] at hlen
          obtain ⟨⟨x0, x1⟩, hX⟩ : ∃ x, x = b[j] := ⟨_, rfl⟩
          rw [← hX] at e0 e1 hnext kf
          simp only at e0 e1 kf
          obtain ⟨K, hK⟩ : ∃ K, K = putsO (putsO [] a) (b.take j) := ⟨_, rfl⟩
          rw [← hK] at hnext hlen hown
          have CP := specPut K (x0, x1) (by have := length_putsO a []; simp only [List.length_nil] at this; omega) kf wr _ _ hown.at_
          simp only at CP
          have HC := Lib.hid CP
          have HN := Lib.hid hnext
          have HW := Lib.hid hw
          have hki : (j : Int) < (b.length : Int) := by omega
          clear CP hnext hK hX hw hown hlen k0 k1 kf
          go_wp2_with fail
          refine HC.out.mono ?_; rintro r w1 ⟨⟨v1, rfl, ho⟩, hb1⟩
          have hz := HW.out.size
          have HO : Hid (NewO W w1 (putO (x0, x1) K) v1) := ho.more fun b h => ⟨by omega, h.2⟩
          have HL := Lib.hid (HW.out.trans hb1)
          clear ho hb1 HC
          go_wp2_with fail
          go_roundw
          case rel => exact ⟨j + 1, by omega, by go_num, by rw [HN.out]; exact HO.out, HL.out⟩
          case measure => simp [intOf]; omega
        · have e : b.take j = b := List.take_of_length_le (by omega)
          rw [e] at hown
          have HO := Lib.hid hown
          have HW := Lib.hid hw
          have hki : ¬ (j : Int) < (b.length : Int) := by omega
          clear e hown hw
          go_wp2_with fail
          go_ret
          exact ⟨⟨_, rfl, HO.out⟩, HW.out⟩

end Go.Proofs.Ytjjmbldgemnhbaa
