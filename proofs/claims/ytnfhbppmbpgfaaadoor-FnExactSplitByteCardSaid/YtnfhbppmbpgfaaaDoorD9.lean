/-
  Marks: markStringS, markRowS, markValueS, markValue.
-/
import Derived.Test.YtnfhbppmbpgfaaaDoorD8
namespace Go.Proofs.YtnfhbppmbpgfaaaDoor
open Go.ChangeShapes Go.WideShapes Go.ChangeAt Go.RowKit
set_option linter.unusedVariables false
set_option linter.unusedSimpArgs false

theorem size_markB (k : Nat) : (markB k).size ≤ k + 2 := by
  unfold markB
  split
  · show 2 ≤ _; omega
  · rw [ByteArray.size_append]
    have := size_digB k
    show 1 + _ ≤ _
    omega
theorem markTextX (x : Int) (k : Nat) (hx : x = (k : Int)) (hk : k ≤ 1099511627776) (W : World) : Calls Tryd.prog 39 #[.int .i64 x] W fun r w' => r = .returned (.string (markB k)) ∧ Later W w' := by
  subst hx
  exact markText k W hk

theorem markStrs (l : List ByteArray) : MarksQ 30 1 l.length (l.flatMap encS) := by
  intro k W S v hk h
  obtain ⟨A, c, rfl, h1, h2, hl⟩ := own_shape' h
  have H0 := Lib.hid (OwnMix.start h k)
  obtain ⟨ds, hds⟩ : ∃ ds, ds = l.flatMap encS := ⟨_, rfl⟩
  have hget : ∀ j (hj : j < l.length), ds[j]? = some (.str l[j]) := fun j hj => by rw [hds]; have := flat_get encS_len l hj (show 0 < 1 by omega); simpa [encS] using this
  rw [← hds] at H0 hk hl ⊢
  have HG := Lib.hid hget
  have HL := Lib.hid hl
  clear h hget hds hl
  go_enter Tryd.func30, Tryd.ntmps30
  go_wp2_with fail
  go_loopw [1, 5] (fun s i wr => ∃ j K : Nat, j ≤ l.length ∧ i = .int .i64 j ∧ s = .int .i64 (K : Int) ∧ K = k + Dt.cnts (ds.take j) ∧ OwnMix wr S 1 l.length ds k j (.slice A l.length c) ∧ Chg S W wr) (fun _ i _ => l.length - (intOf i).toNat)
  case atStart => exact ⟨0, k, Nat.zero_le _, rfl, rfl, by simp [Dt.cnts], H0.out, Chg.rfl' _ _⟩
  case round =>
    obtain ⟨j, K, hj, rfl, rfl, hK, ho, hc⟩ := hrel
    by_cases hlt : j < l.length
    · have hd := HG.out j hlt
      obtain ⟨g, u, rfl, hS, hg, e0, f0⟩ := ho.cell (Nat.le_refl _) hd
      have hle := cnts_le ds j
      have hsuc := cnts_succ hd
      have hK1 : K + 1 = k + Dt.cnts (ds.take (j + 1)) := by rw [hsuc, hK]; rfl
      have hKb : K ≤ 1099511627776 := by omega
      have C := markText K wr hKb
      have hsz := size_markB K
      obtain ⟨M, hM⟩ : ∃ M, M = markB K := ⟨_, rfl⟩
      rw [← hM] at C hsz
      rw [hK] at hM
      have HM := Lib.hid hM
      have HK := Lib.hid hK1
      have HCC := Lib.hid C
      have HO := Lib.hid ho
      have HCH := Lib.hid hc
      have HD := Lib.hid hd
      have HS := Lib.hid hS
      clear hK1 hsuc hle hK ho hc hd C hM e0 f0
      go_wp2_with fail
      refine HCC.out.mono ?_; rintro r w1 ⟨rfl, hb1⟩
      have ho1 := HO.out.later hb1
      obtain ⟨g', u', eg, _, _, e0, f0⟩ := ho1.cell (Nat.le_refl _) HD.out
      simp only [Option.some.injEq, Addr.mk.injEq, and_true] at eg
      subst eg
      have HR := Lib.hid (ho1.str HD.out HM.out (by omega))
      have HC := Lib.hid ((HCH.out.trans (hb1.chg S)).set (o := j) (u := .string M) HS.out)
      clear ho1 hb1
      go_wp2_with fail
      go_roundw
      case rel => exact ⟨j + 1, K + 1, by omega, by go_num, by go_num, HK.out, HR.out, HC.out⟩
      case measure => simp [intOf]; omega
    · have e : j = ds.length := by have := HL.out; omega
      rw [e, List.take_length] at hK
      rw [e] at ho
      have HR := Lib.hid ho.done
      have HK := Lib.hid hK
      have HC := Lib.hid hc
      clear ho hc e hK
      go_wp2_with fail
      go_ret
      exact ⟨ret_int (by rw [HK.out]), HR.out, HC.out⟩

theorem marksQ_at {fn : FuncId} {s n : Nat} {ds : List Dt} (h : MarksQ fn s n ds) {x : Int} (k : Nat) (hx : x = (k : Int)) (hk : k + Dt.cnts ds ≤ 1099511627776) {W : World} {S : Nat → Prop} {v : Value} (ho : Own W S (.sl s n ds) v) :
    Calls Tryd.prog fn #[v, .int .i64 x] W fun r w' => r = .returned (.int .i64 ((k + Dt.cnts ds : Nat) : Int)) ∧ Own w' S (.sl s n (Dt.marks markB ds k)) v ∧ Chg S W w' := by
  subst hx
  exact h k W S v hk ho

end Go.Proofs.YtnfhbppmbpgfaaaDoor
