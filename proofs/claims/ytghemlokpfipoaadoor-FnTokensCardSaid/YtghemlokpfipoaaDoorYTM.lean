/-
  Marks of tokens in slices: markTokenS, heldTokenS: the walks.
-/
import Derived.Test.YtghemlokpfipoaaDoorYTA
import Derived.Test.YtghemlokpfipoaaDoorYMD
namespace Go.Proofs.YtghemlokpfipoaaDoor
open Go.ChangeShapes Go.WideShapes Go.ChangeAt Go.RowKit
set_option linter.unusedVariables false
set_option linter.unusedSimpArgs false
set_option maxRecDepth 100000


set_option maxHeartbeats 2000000 in
theorem markTokenS (l : List Tk) : MarksQ 8 4 l.length (l.flatMap encT) := by
  intro k W S v hk h
  obtain ⟨A, c, rfl, h1, h2, hl⟩ := own_shape' h
  have H0 := Lib.hid (OwnMix.start h k)
  obtain ⟨ds, hds⟩ : ∃ ds, ds = l.flatMap encT := ⟨_, rfl⟩
  have hget0 : ∀ j (hj : j < l.length), ds[j * 4]? = some (.int l[j].kind) := fun j hj => by rw [hds]; have := flat_get encT_len l hj (show 0 < 4 by omega); simpa [encT] using this
  have hget1 : ∀ j (hj : j < l.length), ds[j * 4 + 1]? = some (.int l[j].n) := fun j hj => by rw [hds]; have := flat_get encT_len l hj (show 1 < 4 by omega); simpa [encT] using this
  have hget2 : ∀ j (hj : j < l.length), ds[j * 4 + 2]? = some (.int l[j].at_) := fun j hj => by rw [hds]; have := flat_get encT_len l hj (show 2 < 4 by omega); simpa [encT] using this
  have hget3 : ∀ j (hj : j < l.length), ds[j * 4 + 3]? = some (.str l[j].text) := fun j hj => by rw [hds]; have := flat_get encT_len l hj (show 3 < 4 by omega); simpa [encT] using this
  rw [← hds] at H0 hk hl ⊢
  have HG0 := Lib.hid hget0
  have HG1 := Lib.hid hget1
  have HG2 := Lib.hid hget2
  have HG3 := Lib.hid hget3
  have HL := Lib.hid hl
  clear h hget0 hget1 hget2 hget3 hds hl
  go_enter Tryd.func8, Tryd.ntmps8
  go_wp2_with fail
  go_loopw [1, 5] (fun s i wr => ∃ j K : Nat, j ≤ l.length ∧ i = .int .i64 j ∧ s = .int .i64 (K : Int) ∧ K = k + Dt.cnts (ds.take (j * 4)) ∧ OwnMix wr S 4 l.length ds k (j * 4) (.slice A l.length c) ∧ Chg S W wr) (fun _ i _ => l.length - (intOf i).toNat)
  case atStart => exact ⟨0, k, Nat.zero_le _, rfl, rfl, by simp [Dt.cnts], by simpa using H0.out, Chg.rfl' _ _⟩
  case round =>
    obtain ⟨j, K, hj, rfl, rfl, hK, ho, hc⟩ := hrel
    by_cases hlt : j < l.length
    · have hd0 := HG0.out j hlt
      have hd1 := HG1.out j hlt
      have hd2 := HG2.out j hlt
      have hd3 := HG3.out j hlt
      obtain ⟨g, u, rfl, hS, hg, e0, f0⟩ := ho.cell (Nat.le_refl _) hd0
      obtain ⟨g1, u1, eg1, _, _, e1, f1⟩ := ho.cell (i := j * 4 + 1) (by omega) hd1
      obtain ⟨g2, u2, eg2, _, _, e2, f2⟩ := ho.cell (i := j * 4 + 2) (by omega) hd2
      simp only [Option.some.injEq, Addr.mk.injEq, and_true] at eg1 eg2
      subst eg1 eg2
      have hle := cnts_le ds (j * 4 + 3 + 1)
      have hs0 : Dt.cnts (ds.take (j * 4 + 1)) = Dt.cnts (ds.take (j * 4)) + 1 := cnts_succ hd0
      have hs1 : Dt.cnts (ds.take (j * 4 + 2)) = Dt.cnts (ds.take (j * 4 + 1)) + 1 := cnts_succ hd1
      have hs2 : Dt.cnts (ds.take (j * 4 + 3)) = Dt.cnts (ds.take (j * 4 + 2)) + 1 := cnts_succ hd2
      have hs3 : Dt.cnts (ds.take (j * 4 + 3 + 1)) = Dt.cnts (ds.take (j * 4 + 3)) + 1 := cnts_succ hd3
      have o1 := ho.int hd0 (x := (K : Int)) (by rw [hK]) (by omega)
      have o2 := o1.int hd1 (x := (K : Int) + 1) (by omega) (by omega)
      have o3 := o2.int hd2 (x := (K : Int) + 1 + 1) (by show (K : Int) + 1 + 1 = ((k + Dt.cnts (ds.take (j * 4 + 2)) : Nat) : Int); omega) (by show k + Dt.cnts (ds.take (j * 4 + 2)) ≤ _; omega)
      have hK3 : K + 3 = k + Dt.cnts (ds.take (j * 4 + 3)) := by omega
      have hK1 : K + 3 + 1 = k + Dt.cnts (ds.take ((j + 1) * 4)) := by rw [show (j + 1) * 4 = j * 4 + 3 + 1 by omega]; omega
      have hKb : K + 3 ≤ 1099511627776 := by omega
      have C := fun W' => markTextX ((K : Int) + 1 + 1 + 1) (K + 3) (by omega) hKb W'
      have hsz := size_markB (K + 3)
      obtain ⟨M, hM⟩ : ∃ M, M = markB (K + 3) := ⟨_, rfl⟩
      simp only [← hM] at C
      rw [← hM] at hsz
      rw [hK3] at hM
      have HM := Lib.hid hM
      have HK := Lib.hid hK1
      have HCC := Lib.hid C
      have HO := Lib.hid o3
      have HCH := Lib.hid (((hc.set (o := j * 4) (u := .int .i64 K) hS).set (o := j * 4 + 1) (u := .int .i64 ((K : Int) + 1)) hS).set (o := j * 4 + 2) (u := .int .i64 ((K : Int) + 1 + 1)) hS)
      have HD := Lib.hid hd3
      have HS := Lib.hid hS
      clear o1 o2 o3 hK1 hK3 hs0 hs1 hs2 hs3 hle hK ho hc hd0 hd1 hd2 hd3 C hM
      go_wp2_with fail
      refine (HCC.out _).mono ?_; rintro r w1 ⟨rfl, hb1⟩
      have ho1 := HO.out.later hb1
      obtain ⟨g', u', eg, _, _, e3, f3⟩ := ho1.cell (i := j * 4 + 3) (Nat.le_refl _) HD.out
      simp only [Option.some.injEq, Addr.mk.injEq, and_true] at eg
      subst eg
      have HR := Lib.hid (ho1.str HD.out HM.out (by omega))
      have HC := Lib.hid ((HCH.out.trans (hb1.chg S)).set (o := j * 4 + 3) (u := .string M) HS.out)
      clear ho1 hb1 e0 e1 e2 f0 f1 f2
      go_wp2_with fail
      go_roundw
      case rel => exact ⟨j + 1, K + 3 + 1, by omega, by go_num, by go_num, HK.out, by rw [show (j + 1) * 4 = j * 4 + 3 + 1 by omega]; exact HR.out, HC.out⟩
      case measure => simp [intOf]; omega
    · have e : j * 4 = ds.length := by have := HL.out; omega
      rw [e, List.take_length] at hK
      rw [e] at ho
      have HR := Lib.hid ho.done
      have HK := Lib.hid hK
      have HC := Lib.hid hc
      clear ho hc e hK
      go_wp2_with fail
      go_ret
      exact ⟨ret_int (by rw [HK.out]), HR.out, HC.out⟩

set_option maxHeartbeats 2000000 in
theorem heldTokenS (l : List Tk) : HeldsQ 9 4 l.length (l.flatMap encT) := by
  intro k x W S v hx hl hk h
  subst hx
  obtain ⟨A, c, rfl, h1, h2, _⟩ := At.sl_inv h
  have H0 := Lib.hid h
  obtain ⟨ds, hds⟩ : ∃ ds, ds = l.flatMap encT := ⟨_, rfl⟩
  have hget0 : ∀ j (hj : j < l.length), ds[j * 4]? = some (.int l[j].kind) := fun j hj => by rw [hds]; have := flat_get encT_len l hj (show 0 < 4 by omega); simpa [encT] using this
  have hget1 : ∀ j (hj : j < l.length), ds[j * 4 + 1]? = some (.int l[j].n) := fun j hj => by rw [hds]; have := flat_get encT_len l hj (show 1 < 4 by omega); simpa [encT] using this
  have hget2 : ∀ j (hj : j < l.length), ds[j * 4 + 2]? = some (.int l[j].at_) := fun j hj => by rw [hds]; have := flat_get encT_len l hj (show 2 < 4 by omega); simpa [encT] using this
  have hget3 : ∀ j (hj : j < l.length), ds[j * 4 + 3]? = some (.str l[j].text) := fun j hj => by rw [hds]; have := flat_get encT_len l hj (show 3 < 4 by omega); simpa [encT] using this
  rw [← hds] at H0 hk hl ⊢
  have HG0 := Lib.hid hget0
  have HG1 := Lib.hid hget1
  have HG2 := Lib.hid hget2
  have HG3 := Lib.hid hget3
  have HL := Lib.hid hl
  clear h hds hl hget0 hget1 hget2 hget3
  go_enter Tryd.func9, Tryd.ntmps9
  go_wp2_with fail
  go_loopw [1, 5] (fun s i wr => ∃ j K : Nat, j ≤ l.length ∧ i = .int .i64 j ∧ s = .int .i64 (K : Int) ∧ K = k + Dt.cnts (ds.take (j * 4)) ∧ Later W wr) (fun _ i _ => l.length - (intOf i).toNat)
  case atStart => exact ⟨0, k, Nat.zero_le _, rfl, rfl, by simp [Dt.cnts], Later.rfl' _⟩
  case round =>
    obtain ⟨j, K, hj, rfl, rfl, hK, hw⟩ := hrel
    by_cases hlt : j < l.length
    · obtain ⟨b, off, rfl, hb, e0⟩ := (H0.out.later hw).markInt (HG0.out j hlt)
      obtain ⟨b1, off1, eg1, _, e1⟩ := (H0.out.later hw).markInt (HG1.out j hlt)
      obtain ⟨b2, off2, eg2, _, e2⟩ := (H0.out.later hw).markInt (HG2.out j hlt)
      obtain ⟨b3, off3, eg3, _, e3⟩ := (H0.out.later hw).markStr (HG3.out j hlt)
      simp only [Option.some.injEq, Addr.mk.injEq, and_true] at eg1 eg2 eg3
      obtain ⟨rfl, rfl⟩ := eg1
      obtain ⟨rfl, rfl⟩ := eg2
      obtain ⟨rfl, rfl⟩ := eg3
      have hs0 : Dt.cnts (ds.take (j * 4 + 1)) = Dt.cnts (ds.take (j * 4)) + 1 := cnts_succ (HG0.out j hlt)
      have hs1 : Dt.cnts (ds.take (j * 4 + 2)) = Dt.cnts (ds.take (j * 4 + 1)) + 1 := cnts_succ (HG1.out j hlt)
      have hs2 : Dt.cnts (ds.take (j * 4 + 3)) = Dt.cnts (ds.take (j * 4 + 2)) + 1 := cnts_succ (HG2.out j hlt)
      have hs3 : Dt.cnts (ds.take (j * 4 + 3 + 1)) = Dt.cnts (ds.take (j * 4 + 3)) + 1 := cnts_succ (HG3.out j hlt)
      have hle := cnts_le ds (j * 4 + 3 + 1)
      rw [← hK] at e0
      have q3 : k + Dt.cnts (ds.take (j * 4 + 3)) = K + 3 := by omega
      rw [show (((k + Dt.cnts (ds.take (j * 4 + 1)) : Nat)) : Int) = (K : Int) + 1 by omega, ← Nat.add_assoc] at e1
      rw [show (((k + Dt.cnts (ds.take (j * 4 + 2)) : Nat)) : Int) = (K : Int) + 1 + 1 by omega, ← Nat.add_assoc] at e2
      rw [q3, ← Nat.add_assoc] at e3
      have HK := Lib.hid (show K + 3 + 1 = k + Dt.cnts (ds.take ((j + 1) * 4)) by rw [show (j + 1) * 4 = j * 4 + 3 + 1 by omega]; omega)
      have hKb : K + 3 ≤ 1099511627776 := by omega
      have C := markTextX ((K : Int) + 1 + 1 + 1) (K + 3) (by omega) hKb wr.drew
      obtain ⟨M, hM⟩ : ∃ M, M = markB (K + 3) := ⟨_, rfl⟩
      rw [← hM] at C e3
      have HC := Lib.hid C
      have HW := Lib.hid hw
      have hji : (j : Int) < (l.length : Int) := by omega
      clear hs0 hs1 hs2 hs3 hle hK C hM hw q3
      go_wp2_with fail
      go_region_held3 (fun w' => w'.cell? ⟨b, off + j * 4 + 3, none⟩ = some (.string M))
        (first | exact e3 | exact kept_cell hb1 e3)
        (first | (go_at_call 19; refine HC.out.mono ?_; rintro r w1 ⟨rfl, hb1⟩))
      go_wp2_with fail
      go_roundw
      case rel => exact ⟨j + 1, K + 3 + 1, by omega, by go_num, by go_num, HK.out, HW.out.trans ((Later.rfl' _).drew.trans hb1)⟩
      case measure => simp [intOf]; omega
    · have e : j * 4 = ds.length := by have := HL.out; omega
      rw [e, List.take_length] at hK
      have HK := Lib.hid hK
      clear e hK
      go_wp2_with fail
      go_ret
      exact ⟨ret_int (by rw [HK.out]), hw⟩

end Go.Proofs.YtghemlokpfipoaaDoor
