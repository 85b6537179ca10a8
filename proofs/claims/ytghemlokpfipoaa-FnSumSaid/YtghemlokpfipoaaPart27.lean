/-
  Marks: markStringS, markRowS, markValueS, markValue.
-/
import Derived.Test.YtghemlokpfipoaaPart26
namespace Go.Proofs.Ytghemlokpfipoaa
open Go.ChangeShapes Go.WideShapes Go.ChangeAt Go.RowKit
set_option linter.unusedVariables false
set_option linter.unusedSimpArgs false

theorem size_markB (k : Nat) : (markB k).size ≤ k + 2 := by
  unfold markB
  split
  · show 2 ≤ _; omega
  · rw [ByteArray.size_append]
    have := size_digB k
    show 1 + _ ≤ _
    omega
theorem markTextX (x : Int) (k : Nat) (hx : x = (k : Int)) (hk : k ≤ 1099511627776) (W : World) : Calls Try.prog 103 #[.int .i64 x] W fun r w' => r = .returned (.string (markB k)) ∧ Later W w' := by
  subst hx
  exact markText k W hk

theorem markStrs (l : List ByteArray) : MarksQ 104 1 l.length (l.flatMap encS) := by
  intro k W S v hk h
  obtain ⟨A, c, rfl, h1, h2, hl⟩ := own_shape' h
  have H0 := Lib.hid (OwnMix.start h k)
  obtain ⟨ds, hds⟩ : ∃ ds, ds = l.flatMap encS := ⟨_, rfl⟩
  have hget : ∀ j (hj : j < l.length), ds[j]? = some (.str l[j]) := fun j hj => by rw [hds]; have := flat_get encS_len l hj (show 0 < 1 by omega); simpa [encS] using this
  rw [← hds] at H0 hk hl ⊢
  have HG := Lib.hid hget
  have HL := Lib.hid hl
  clear h hget hds hl
  go_enter Try.func104, Try.ntmps104
  go_wp2_with fail
  go_loopw [1, 5] (fun s i wr => ∃ j K : Nat, j ≤ l.length ∧ i = .int .i64 j ∧ s = .int .i64 (K : Int) ∧ K = k + Dt.cnts (ds.take j) ∧ OwnMix wr S 1 l.length ds k j (.slice A l.length c) ∧ Chg S W wr) (fun _ i _ => l.length - (intOf i).toNat)
  case atStart => exact ⟨0, k, Nat.zero_le _, rfl, rfl, by simp [Dt.cnts], H0.out, Chg.rfl' _ _⟩
  case round =>
    obtain ⟨j, K, hj, rfl, rfl, hK, ho, hc⟩ := hrel
    by_cases hlt : j < l.length
    · have hd := HG.out j hlt
      obtain ⟨g, u, rfl, hS, hg, e0, f0⟩ := ho.cell (Nat.le_refl _) hd
      have hle := cnts_le ds j
      have hsuc := cnts_succ hd
      have hK1 : K + 1 = k + Dt.cnts (ds.take (j + 1)) := by rw [hsuc, hK]; rfl
      have hKb : K ≤ 1099511627776 := by omega
      have C := markText K wr hKb
      have hsz := size_markB K
      obtain ⟨M, hM⟩ : ∃ M, M = markB K := ⟨_, rfl⟩
      rw [← hM] at C hsz
      rw [hK] at hM
      have HM := Lib.hid hM
      have HK := Lib.hid hK1
      have HCC := Lib.hid C
      have HO := Lib.hid ho
      have HCH := Lib.hid hc
      have HD := Lib.hid hd
      have HS := Lib.hid hS
      clear hK1 hsuc hle hK ho hc hd C hM e0 f0
      go_wp2_with fail
      refine HCC.out.mono ?_; rintro r w1 ⟨rfl, hb1⟩
      have ho1 := HO.out.later hb1
      obtain ⟨g', u', eg, _, _, e0, f0⟩ := ho1.cell (Nat.le_refl _) HD.out
      simp only [Option.some.injEq, Addr.mk.injEq, and_true] at eg
      subst eg
      have HR := Lib.hid (ho1.str HD.out HM.out (by omega))
      have HC := Lib.hid ((HCH.out.trans (hb1.chg S)).set (o := j) (u := .string M) HS.out)
      clear ho1 hb1
      go_wp2_with fail
      go_roundw
      case rel => exact ⟨j + 1, K + 1, by omega, by go_num, by go_num, HK.out, HR.out, HC.out⟩
      case measure => simp [intOf]; omega
    · have e : j = ds.length := by have := HL.out; omega
      rw [e, List.take_length] at hK
      rw [e] at ho
      have HR := Lib.hid ho.done
      have HK := Lib.hid hK
      have HC := Lib.hid hc
      clear ho hc e hK
      go_wp2_with fail
      go_ret
      exact ⟨ret_int (by rw [HK.out]), HR.out, HC.out⟩

theorem marksQ_at {fn : FuncId} {s n : Nat} {ds : List Dt} (h : MarksQ fn s n ds) {x : Int} (k : Nat) (hx : x = (k : Int)) (hk : k + Dt.cnts ds ≤ 1099511627776) {W : World} {S : Nat → Prop} {v : Value} (ho : Own W S (.sl s n ds) v) :
    Calls Try.prog fn #[v, .int .i64 x] W fun r w' => r = .returned (.int .i64 ((k + Dt.cnts ds : Nat) : Int)) ∧ Own w' S (.sl s n (Dt.marks markB ds k)) v ∧ Chg S W w' := by
  subst hx
  exact h k W S v hk ho

theorem markRowS (l : List Rw) : MarksQ 105 2 l.length (l.flatMap encR) := by
  intro k W S v hk h
  obtain ⟨A, c, rfl, h1, h2, hl⟩ := own_shape' h
  have H0 := Lib.hid (OwnMix.start h k)
  obtain ⟨ds, hds⟩ : ∃ ds, ds = l.flatMap encR := ⟨_, rfl⟩
  have hget0 : ∀ j (hj : j < l.length), ds[j * 2]? = some (.sl 1 l[j].cells.length (l[j].cells.flatMap encI)) := fun j hj => by rw [hds]; have := flat_get encR_len l hj (show 0 < 2 by omega); simpa [encR] using this
  have hget1 : ∀ j (hj : j < l.length), ds[j * 2 + 1]? = some (.sl 2 l[j].from_.length (l[j].from_.flatMap encO)) := fun j hj => by rw [hds]; have := flat_get encR_len l hj (show 1 < 2 by omega); simpa [encR] using this
  rw [← hds] at H0 hk hl ⊢
  have HG0 := Lib.hid hget0
  have HG1 := Lib.hid hget1
  have HL := Lib.hid hl
  clear h hget0 hget1 hds hl
  go_enter Try.func105, Try.ntmps105
  go_wp2_with fail
  go_loopw [1, 5] (fun s i wr => ∃ j K : Nat, j ≤ l.length ∧ i = .int .i64 j ∧ s = .int .i64 (K : Int) ∧ K = k + Dt.cnts (ds.take (j * 2)) ∧ OwnMix wr S 2 l.length ds k (j * 2) (.slice A l.length c) ∧ Chg S W wr) (fun _ i _ => l.length - (intOf i).toNat)
  case atStart => exact ⟨0, k, Nat.zero_le _, rfl, rfl, by simp [Dt.cnts], by simpa using H0.out, Chg.rfl' _ _⟩
  case round =>
    obtain ⟨j, K, hj, rfl, rfl, hK, ho, hc⟩ := hrel
    by_cases hlt : j < l.length
    · have hd0 := HG0.out j hlt
      have hd1 := HG1.out j hlt
      obtain ⟨g, A1, c1, T1, rfl, hS, e0, b1, b2, hT1, ow1, next1⟩ := ho.sub hd0
      have hle := cnts_le ds (j * 2 + 1 + 1)
      have hs0 := cnts_succ hd0
      have hs1 := cnts_succ hd1
      simp only [Dt.cnt] at hs0 hs1
      obtain ⟨N1, hN1⟩ : ∃ N, N = Dt.cnts (l[j].cells.flatMap encI) := ⟨_, rfl⟩
      obtain ⟨N2, hN2⟩ : ∃ N, N = Dt.cnts (l[j].from_.flatMap encO) := ⟨_, rfl⟩
      have C1 := markIntS l[j].cells K wr T1 _ (by omega) ow1
      have C2 := fun W T v (ho : Own W T _ v) => markOriginS l[j].from_ (K + N1) W T v (by omega) ho
      rw [← hN1] at C1 hs0
      rw [← hN2] at C2 hs1
      have HN1 := Lib.hid next1
      have HC1 := Lib.hid C1
      have HC2 := Lib.hid C2
      have HD1 := Lib.hid hd1
      have HT1 := Lib.hid hT1
      have hK1 : K + N1 = k + Dt.cnts (ds.take (j * 2 + 1)) := by omega
      have hK2 : K + N1 + N2 = k + Dt.cnts (ds.take ((j + 1) * 2)) := by rw [show (j + 1) * 2 = j * 2 + 1 + 1 by omega]; omega
      have hKb : K + N1 + N2 ≤ 1099511627776 := by omega
      have HK0 := Lib.hid hK
      have HK1 := Lib.hid hK1
      have HK2 := Lib.hid hK2
      have HCH := Lib.hid hc
      clear next1 C1 C2 hd0 hd1 hT1 hK1 hK2 hK hle hs0 hs1 hN1 hN2 ow1 ho hc
      go_wp2_with fail
      refine HC1.out.mono ?_; rintro r w1 ⟨rfl, ow1, hg1⟩
      have ho1 := HN1.out w1 (by rw [← HK0.out]; exact ow1) hg1
      obtain ⟨g', A2, c2, T2, eg, hS2, e1, b3, b4, hT2, ow2, next2⟩ := ho1.sub HD1.out
      simp only [Option.some.injEq, Addr.mk.injEq, and_true] at eg
      subst eg
      have HN2 := Lib.hid next2
      have HOW2 := Lib.hid ow2
      have HT2 := Lib.hid hT2
      replace HCH := Lib.hid (HCH.out.trans (hg1.more HT1.out))
      clear ow1 hg1 ho1 ow2 next2 hT2 e0 HN1 HC1 HT1
      go_wp2_with fail
      refine (HC2.out _ _ _ HOW2.out).mono ?_; rintro r w2 ⟨rfl, ow2, hg2⟩
      have HR := Lib.hid (HN2.out w2 (by rw [← HK1.out]; exact ow2) hg2)
      have HC := Lib.hid (HCH.out.trans (hg2.more HT2.out))
      clear ow2 hg2
      go_wp2_with fail
      go_roundw
      case rel => exact ⟨j + 1, K + N1 + N2, by omega, by go_num, rfl, HK2.out, by rw [show (j + 1) * 2 = j * 2 + 1 + 1 by omega]; exact HR.out, HC.out⟩
      case measure => simp [intOf]; omega
    · have e : j * 2 = ds.length := by have := HL.out; omega
      rw [e, List.take_length] at hK
      rw [e] at ho
      have HR := Lib.hid ho.done
      have HK := Lib.hid hK
      have HC := Lib.hid hc
      clear ho hc e hK
      go_wp2_with fail
      go_ret
      exact ⟨ret_int (by rw [HK.out]), HR.out, HC.out⟩
end Go.Proofs.Ytghemlokpfipoaa
