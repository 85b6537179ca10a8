/-
  Marks: markValueS, markValue.
-/
import Derived.Test.YtghemlokpfipoaaPart27
namespace Go.Proofs.Ytghemlokpfipoaa
open Go.ChangeShapes Go.WideShapes Go.ChangeAt Go.RowKit
set_option linter.unusedVariables false
set_option linter.unusedSimpArgs false

/-- What the marking of a value's list does. -/
def MarkVQ (d : Vl) : Prop := ∀ k n s t l c r, d = .mk k n s t l c r → MarksQ 40 7 l.length (l.flatMap encV)

set_option maxHeartbeats 2000000 in
theorem markValueS_step (l : List Vl) (ih : ∀ x, x ∈ l → MarkVQ x) : MarksQ 40 7 l.length (l.flatMap encV) := by
  intro k W S v hk h
  obtain ⟨A, c, rfl, h1, h2, hl⟩ := own_shape' h
  have H0 := Lib.hid (OwnMix.start h k)
  obtain ⟨ds, hds⟩ : ∃ ds, ds = l.flatMap encV := ⟨_, rfl⟩
  have hget : ∀ j (hj : j < l.length), ∃ k n s t l' cl r, l[j] = .mk k n s t l' cl r ∧ ds[j * 7]? = some (.int k) ∧ ds[j * 7 + 1]? = some (.int n) ∧ ds[j * 7 + 2]? = some (.int s) ∧ ds[j * 7 + 3]? = some (.str t) ∧ ds[j * 7 + 4]? = some (.sl 7 l'.length (l'.flatMap encV)) ∧
      ds[j * 7 + 5]? = some (.sl 1 cl.length (cl.flatMap encS)) ∧ ds[j * 7 + 6]? = some (.sl 2 r.length (r.flatMap encR)) := by
    intro j hj
    obtain ⟨k, n, s, t, l', cl, r, hx⟩ := Vl.shape l[j]
    have hh : ∀ i, i < 7 → ds[j * 7 + i]? = (encV l[j])[i]? := fun i hi => by rw [hds]; exact flat_get encV_len l hj hi
    rw [hx, encV, encVs_eq] at hh
    refine ⟨k, n, s, t, l', cl, r, hx, hh 0 (by omega), hh 1 (by omega), hh 2 (by omega), hh 3 (by omega), hh 4 (by omega), hh 5 (by omega), hh 6 (by omega)⟩
  rw [← hds] at H0 hk hl ⊢
  have HG := Lib.hid hget
  have HL := Lib.hid hl
  have IH := Lib.hid ih
  clear h hget hds hl ih
  go_enter Try.func40, Try.ntmps40
  go_wp2_with fail
  go_loopw [1, 5] (fun s i wr => ∃ j K : Nat, j ≤ l.length ∧ i = .int .i64 j ∧ s = .int .i64 (K : Int) ∧ K = k + Dt.cnts (ds.take (j * 7)) ∧ OwnMix wr S 7 l.length ds k (j * 7) (.slice A l.length c) ∧ Chg S W wr) (fun _ i _ => l.length - (intOf i).toNat)
  case atStart => exact ⟨0, k, Nat.zero_le _, rfl, rfl, by simp [Dt.cnts], by simpa using H0.out, Chg.rfl' _ _⟩
  case round =>
    obtain ⟨j, K, hj, rfl, rfl, hK, ho, hc⟩ := hrel
    by_cases hlt : j < l.length
    · obtain ⟨xk, xn, xs, xt, xl, xc, xr, hx, g0, g1, g2, g3, g4, g5, g6⟩ := HG.out j hlt
      have IHx := IH.out l[j] (List.getElem_mem hlt) _ _ _ _ _ _ _ hx
      have hle := cnts_le ds (j * 7 + 6 + 1)
      have s0 := cnts_succ g0
      have s1 := cnts_succ g1
      have s2 := cnts_succ g2
      have s3 := cnts_succ g3
      have s4 := cnts_succ g4
      have s5 := cnts_succ g5
      have s6 := cnts_succ g6
      simp only [Dt.cnt, Nat.add_assoc, Nat.reduceAdd] at s0 s1 s2 s3 s4 s5 s6 hle
      obtain ⟨N1, hN1⟩ : ∃ N, N = Dt.cnts (xl.flatMap encV) := ⟨_, rfl⟩
      obtain ⟨N2, hN2⟩ : ∃ N, N = Dt.cnts (xc.flatMap encS) := ⟨_, rfl⟩
      obtain ⟨N3, hN3⟩ : ∃ N, N = Dt.cnts (xr.flatMap encR) := ⟨_, rfl⟩
      rw [← hN1] at s4
      rw [← hN2] at s5
      rw [← hN3] at s6
      have hKb : K + 4 + N1 + N2 + N3 ≤ 1099511627776 := by omega
      have C1 := fun W T v (ho : Own W T _ v) => marksQ_at IHx (x := (K : Int) + 1 + 1 + 1 + 1) (K + 4) (by omega) (by rw [← hN1]; omega) (W := W) (S := T) (v := v) ho
      have C2 := fun W T v (ho : Own W T _ v) => markStrs xc (K + 4 + N1) W T v (by rw [← hN2]; omega) ho
      have C3 := fun W T v (ho : Own W T _ v) => markRowS xr (K + 4 + N1 + N2) W T v (by rw [← hN3]; omega) ho
      rw [← hN1] at C1
      rw [← hN2] at C2
      rw [← hN3] at C3
      have CM := fun W => markTextX ((K : Int) + 1 + 1 + 1) (K + 3) (by omega) (by omega) W
      have hsz := size_markB (K + 3)
      obtain ⟨M, hM⟩ : ∃ M, M = markB (K + 3) := ⟨_, rfl⟩
      rw [← hM] at CM hsz
      obtain ⟨g, u0, rfl, hS, hg, e0, f0⟩ := ho.cell (Nat.le_refl _) g0
      obtain ⟨g', u1, eg, _, _, e1, f1⟩ := ho.cell (show j * 7 ≤ j * 7 + 1 by omega) g1
      simp only [Option.some.injEq, Addr.mk.injEq, and_true] at eg
      subst eg
      obtain ⟨g', u2, eg, _, _, e2, f2⟩ := ho.cell (show j * 7 ≤ j * 7 + 2 by omega) g2
      simp only [Option.some.injEq, Addr.mk.injEq, and_true] at eg
      subst eg
      have o1 := ho.int g0 (x := (K : Int)) (by rw [hK]) (by omega)
      have o2 : OwnMix _ S 7 l.length ds k (j * 7 + 2) _ := o1.int g1 (x := (K : Int) + 1) (by omega) (by omega)
      have o3 : OwnMix _ S 7 l.length ds k (j * 7 + 3) _ := o2.int g2 (x := (K : Int) + 1 + 1) (by omega) (by omega)
      have hc3 := ((hc.set (o := j * 7) (u := .int .i64 K) hS).set (o := j * 7 + 1) (u := .int .i64 ((K : Int) + 1)) hS).set (o := j * 7 + 2) (u := .int .i64 ((K : Int) + 1 + 1)) hS
      have h3 : K + 3 = k + Dt.cnts (ds.take (j * 7 + 3)) := by omega
      have h4 : K + 4 = k + Dt.cnts (ds.take (j * 7 + 4)) := by omega
      have h5 : K + 4 + N1 = k + Dt.cnts (ds.take (j * 7 + 5)) := by omega
      have h6 : K + 4 + N1 + N2 = k + Dt.cnts (ds.take (j * 7 + 6)) := by omega
      have h7 : K + 4 + N1 + N2 + N3 = k + Dt.cnts (ds.take ((j + 1) * 7)) := by rw [show (j + 1) * 7 = j * 7 + 7 by omega]; omega
      have HO3 := Lib.hid o3
      have HC3 := Lib.hid hc3
      have H3 := Lib.hid h3; have H4 := Lib.hid h4; have H5 := Lib.hid h5; have H6 := Lib.hid h6; have H7 := Lib.hid h7
      have HM := Lib.hid hM
      have HCM := Lib.hid CM
      have HC1 := Lib.hid C1; have HC2 := Lib.hid C2; have HCC3 := Lib.hid C3
      have HD3 := Lib.hid g3; have HD4 := Lib.hid g4; have HD5 := Lib.hid g5; have HD6 := Lib.hid g6
      have HS := Lib.hid hS
      clear o1 o2 o3 hc3 h3 h4 h5 h6 h7 hM CM C1 C2 C3 g0 g1 g2 g3 g4 g5 g6 hS s0 s1 s2 s3 s4 s5 s6 hle hN1 hN2 hN3 hx IHx hK ho hc
      go_wp2_with fail
      refine (HCM.out _).mono ?_; rintro r w1 ⟨rfl, hb1⟩
      have ho1 := HO3.out.later hb1
      obtain ⟨g', u3, eg, _, _, e3, f3⟩ := ho1.cell (Nat.le_refl _) HD3.out
      simp only [Option.some.injEq, Addr.mk.injEq, and_true] at eg
      subst eg
      have ho2 : OwnMix _ S 7 l.length ds k (j * 7 + 4) _ := ho1.str HD3.out (x := M) (by rw [HM.out, H3.out]) (by omega)
      have hc1 := (HC3.out.trans (hb1.chg S)).set (o := j * 7 + 3) (u := .string M) HS.out
      obtain ⟨g', A1, c1, T1, eg, _, e4, b1, b2, hT1, ow1, next1⟩ := ho2.sub HD4.out
      simp only [Option.some.injEq, Addr.mk.injEq, and_true] at eg
      subst eg
      have hbl : g < w1.heap.size := World.block_lt_of_cell? _ _ e3
      have e4' : w1.cell? ⟨g, j * 7 + 4, none⟩ = some (.slice A1 xl.length c1) := by
        obtain ⟨_, u4, eg, _, _, e4', _⟩ := ho1.cell (show j * 7 + 3 ≤ j * 7 + 4 by omega) HD4.out
        simp only [Option.some.injEq, Addr.mk.injEq, and_true] at eg
        subst eg
        have : (w1.setCell ⟨g, j * 7 + 3, none⟩ (.string M)).cell? ⟨g, j * 7 + 4, none⟩ = w1.cell? ⟨g, j * 7 + 4, none⟩ := by simp [go_sem]
        rw [← this]
        exact e4
      have HOW1 := Lib.hid ow1
      have HX1 := Lib.hid next1
      have HT1 := Lib.hid hT1
      have HCH := Lib.hid hc1
      clear ho1 ho2 hb1 ow1 next1 hT1 hc1 e0 e1 e2 f0 f1 f2 e4 HO3 HC3 HCM
      go_wp2_with fail
      refine (HC1.out _ _ _ HOW1.out).mono ?_; rintro r w2 ⟨rfl, ow1, hg1⟩
      have ho3 : OwnMix _ S 7 l.length ds k (j * 7 + 5) _ := HX1.out w2 (by rw [← H4.out]; exact ow1) hg1
      obtain ⟨g', A2, c2, T2, eg, _, e5, b3, b4, hT2, ow2, next2⟩ := ho3.sub HD5.out
      simp only [Option.some.injEq, Addr.mk.injEq, and_true] at eg
      subst eg
      have HOW2 := Lib.hid ow2
      have HX2 := Lib.hid next2
      have HT2 := Lib.hid hT2
      replace HCH := Lib.hid (HCH.out.trans (hg1.more HT1.out))
      clear ow1 hg1 ho3 ow2 next2 hT2 e3 f3 e4' HOW1 HX1 HT1 HC1 hbl
      go_wp2_with fail
      refine (HC2.out _ _ _ HOW2.out).mono ?_; rintro r w3 ⟨rfl, ow2, hg2⟩
      have ho4 : OwnMix _ S 7 l.length ds k (j * 7 + 6) _ := HX2.out w3 (by rw [← H5.out]; exact ow2) hg2
      obtain ⟨g', A3, c3, T3, eg, _, e6, b5, b6, hT3, ow3, next3⟩ := ho4.sub HD6.out
      simp only [Option.some.injEq, Addr.mk.injEq, and_true] at eg
      subst eg
      have HOW3 := Lib.hid ow3
      have HX3 := Lib.hid next3
      have HT3 := Lib.hid hT3
      replace HCH := Lib.hid (HCH.out.trans (hg2.more HT2.out))
      clear ow2 hg2 ho4 ow3 next3 hT3 e5 HOW2 HX2 HT2 HC2
      go_wp2_with fail
      refine (HCC3.out _ _ _ HOW3.out).mono ?_; rintro r w4 ⟨rfl, ow3, hg3⟩
      have ho5 : OwnMix w4 S 7 l.length ds k ((j + 1) * 7) (.slice (some ⟨g, 0, none⟩) l.length c) := by
        have := HX3.out w4 (by rw [← H6.out]; exact ow3) hg3
        rw [show (j + 1) * 7 = j * 7 + 6 + 1 by omega]
        exact this
      have HR := Lib.hid ho5
      have HC := Lib.hid (HCH.out.trans (hg3.more HT3.out))
      clear ow3 hg3 ho5 e6 HOW3 HX3 HT3 HCC3 HCH
      go_wp2_with fail
      go_roundw
      case rel => exact ⟨j + 1, K + 4 + N1 + N2 + N3, by omega, by go_num, rfl, H7.out, HR.out, HC.out⟩
      case measure => simp [intOf]; omega
    · have e : j * 7 = ds.length := by have := HL.out; omega
      rw [e, List.take_length] at hK
      rw [e] at ho
      have HR := Lib.hid ho.done
      have HK := Lib.hid hK
      have HC := Lib.hid hc
      clear ho hc e hK
      go_wp2_with fail
      go_ret
      exact ⟨ret_int (by rw [HK.out]), HR.out, HC.out⟩

theorem markVQ : ∀ d, MarkVQ d := by
  refine Vl.ind fun k n s t l c r ih => ?_
  intro k' n' s' t' l' c' r' e
  simp only [Vl.mk.injEq] at e
  obtain ⟨_, _, _, _, rfl, _, _⟩ := e
  exact markValueS_step l ih
theorem markValueS (l : List Vl) : MarksQ 40 7 l.length (l.flatMap encV) := markValueS_step l fun x _ => markVQ x
end Go.Proofs.Ytghemlokpfipoaa
