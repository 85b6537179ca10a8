/-
  Marks that are held: heldIntS, heldOriginS, heldStringS, heldRowS.
-/
import Derived.Test.YtghemlokpfipoaaPart27
namespace Go.Proofs.Ytghemlokpfipoaa
open Go.ChangeShapes Go.WideShapes Go.ChangeAt Go.RowKit
set_option linter.unusedVariables false
set_option linter.unusedSimpArgs false

theorem At.markInt {w : World} {S : Nat → Prop} {s n c k p : Nat} {A : Option Addr} {ds : List Dt} {m : Int} (h : At w S (.sl s n (Dt.marks markB ds k)) (.slice A n c)) (hd : ds[p]? = some (.int m)) :
    ∃ b off, A = some ⟨b, off, none⟩ ∧ b < w.heap.size ∧ w.cell? ⟨b, off + p, none⟩ = some (.int .i64 ((k + Dt.cnts (ds.take p) : Nat) : Int)) := by
  have hm : (Dt.marks markB ds k)[p]? = some (.int ((k + Dt.cnts (ds.take p) : Nat) : Int)) := by rw [get_marks, hd]; rfl
  obtain ⟨b, off, e, hl, _, hc⟩ := At.cells h (by intro e; rw [e] at hm; simp at hm)
  obtain ⟨u, h1, h2⟩ := hc p _ hm
  obtain ⟨rfl, _⟩ := h2.int_inv
  exact ⟨b, off, e, hl, h1⟩
theorem At.markStr {w : World} {S : Nat → Prop} {s n c k p : Nat} {A : Option Addr} {ds : List Dt} {m : ByteArray} (h : At w S (.sl s n (Dt.marks markB ds k)) (.slice A n c)) (hd : ds[p]? = some (.str m)) :
    ∃ b off, A = some ⟨b, off, none⟩ ∧ b < w.heap.size ∧ w.cell? ⟨b, off + p, none⟩ = some (.string (markB (k + Dt.cnts (ds.take p)))) := by
  have hm : (Dt.marks markB ds k)[p]? = some (.str (markB (k + Dt.cnts (ds.take p)))) := by rw [get_marks, hd]; rfl
  obtain ⟨b, off, e, hl, _, hc⟩ := At.cells h (by intro e; rw [e] at hm; simp at hm)
  obtain ⟨u, h1, h2⟩ := hc p _ hm
  obtain ⟨rfl, _⟩ := h2.str_inv
  exact ⟨b, off, e, hl, h1⟩
theorem At.markSub {w : World} {S : Nat → Prop} {s n c k p s' n' : Nat} {A : Option Addr} {ds ds' : List Dt} (h : At w S (.sl s n (Dt.marks markB ds k)) (.slice A n c)) (hd : ds[p]? = some (.sl s' n' ds')) :
    ∃ b off A' c', A = some ⟨b, off, none⟩ ∧ b < w.heap.size ∧ w.cell? ⟨b, off + p, none⟩ = some (.slice A' n' c') ∧ At w S (.sl s' n' (Dt.marks markB ds' (k + Dt.cnts (ds.take p)))) (.slice A' n' c') := by
  have hm : (Dt.marks markB ds k)[p]? = some (.sl s' n' (Dt.marks markB ds' (k + Dt.cnts (ds.take p)))) := by rw [get_marks, hd]; rfl
  obtain ⟨b, off, e, hl, _, hc⟩ := At.cells h (by intro e; rw [e] at hm; simp at hm)
  obtain ⟨u, h1, h2⟩ := hc p _ hm
  obtain ⟨A', c', rfl, _⟩ := h2.sl_inv
  exact ⟨b, off, A', c', e, hl, h1, h2⟩
/-- What a holding function answers. -/
def HeldsQ (fn : FuncId) (s n : Nat) (ds : List Dt) : Prop := ∀ (k : Nat) (x : Int) (W : World) (S : Nat → Prop) (v : Value), x = (k : Int) → ds.length = n * s → k + Dt.cnts ds ≤ 1099511627776 → At W S (.sl s n (Dt.marks markB ds k)) v →
  Calls Try.prog fn #[v, .int .i64 x] W fun r w' => r = .returned (.int .i64 ((k + Dt.cnts ds : Nat) : Int)) ∧ Later W w'


theorem heldIntS (l : List Int) : HeldsQ 148 1 l.length (l.flatMap encI) := by
  intro k x W S v hx hl hk h
  subst hx
  obtain ⟨A, c, rfl, h1, h2, _⟩ := At.sl_inv h
  have H0 := Lib.hid h
  obtain ⟨ds, hds⟩ : ∃ ds, ds = l.flatMap encI := ⟨_, rfl⟩
  have hget : ∀ j (hj : j < l.length), ds[j]? = some (.int l[j]) := fun j hj => by rw [hds]; have := flat_get encI_len l hj (show 0 < 1 by omega); simpa [encI] using this
  rw [← hds] at H0 hk hl ⊢
  have HG := Lib.hid hget
  have HL := Lib.hid hl
  clear h hds hl hget
  go_enter Try.func148, Try.ntmps148
  go_wp2_with fail
  go_loopw [1, 5] (fun s i wr => ∃ j K : Nat, j ≤ l.length ∧ i = .int .i64 j ∧ s = .int .i64 (K : Int) ∧ K = k + Dt.cnts (ds.take j) ∧ Later W wr) (fun _ i _ => l.length - (intOf i).toNat)
  case atStart => exact ⟨0, k, Nat.zero_le _, rfl, rfl, by simp [Dt.cnts], Later.rfl' _⟩
  case round =>
    obtain ⟨j, K, hj, rfl, rfl, hK, hw⟩ := hrel
    by_cases hlt : j < l.length
    · obtain ⟨b, off, rfl, hb, e0⟩ := (H0.out.later hw).markInt (HG.out j hlt)
      rw [← hK] at e0
      have hs := cnts_succ (HG.out j hlt)
      have hle := cnts_le ds (j + 1)
      simp only [Dt.cnt] at hs
      have HK := Lib.hid (show K + 1 = k + Dt.cnts (ds.take (j + 1)) by omega)
      have hKb : K ≤ 1099511627776 := by omega
      clear hs hle hK
      go_wp2_with fail
      go_roundw
      case rel => exact ⟨j + 1, K + 1, by omega, by go_num, by go_num, HK.out, hw⟩
      case measure => simp [intOf]; omega
    · have e : j = ds.length := by have := HL.out; omega
      rw [e, List.take_length] at hK
      have HK := Lib.hid hK
      clear e hK
      go_wp2_with fail
      go_ret
      exact ⟨ret_int (by rw [HK.out]), hw⟩

theorem heldOriginS (l : List Org) : HeldsQ 49 2 l.length (l.flatMap encO) := by
  intro k x W S v hx hl hk h
  subst hx
  obtain ⟨A, c, rfl, h1, h2, _⟩ := At.sl_inv h
  have H0 := Lib.hid h
  obtain ⟨ds, hds⟩ : ∃ ds, ds = l.flatMap encO := ⟨_, rfl⟩
  have hget0 : ∀ j (hj : j < l.length), ds[j * 2]? = some (.int l[j].1) := fun j hj => by rw [hds]; have := flat_get encO_len l hj (show 0 < 2 by omega); simpa [encO] using this
  have hget1 : ∀ j (hj : j < l.length), ds[j * 2 + 1]? = some (.int l[j].2) := fun j hj => by rw [hds]; have := flat_get encO_len l hj (show 1 < 2 by omega); simpa [encO] using this
  rw [← hds] at H0 hk hl ⊢
  have HG0 := Lib.hid hget0
  have HG1 := Lib.hid hget1
  have HL := Lib.hid hl
  clear h hds hl hget0 hget1
  go_enter Try.func49, Try.ntmps49
  go_wp2_with fail
  go_loopw [1, 5] (fun s i wr => ∃ j K : Nat, j ≤ l.length ∧ i = .int .i64 j ∧ s = .int .i64 (K : Int) ∧ K = k + Dt.cnts (ds.take (j * 2)) ∧ Later W wr) (fun _ i _ => l.length - (intOf i).toNat)
  case atStart => exact ⟨0, k, Nat.zero_le _, rfl, rfl, by simp [Dt.cnts], Later.rfl' _⟩
  case round =>
    obtain ⟨j, K, hj, rfl, rfl, hK, hw⟩ := hrel
    by_cases hlt : j < l.length
    · obtain ⟨b, off, rfl, hb, e0⟩ := (H0.out.later hw).markInt (HG0.out j hlt)
      obtain ⟨b', off', eg, _, e1⟩ := (H0.out.later hw).markInt (HG1.out j hlt)
      simp only [Option.some.injEq, Addr.mk.injEq, and_true] at eg
      obtain ⟨rfl, rfl⟩ := eg
      have hs := cnts_succ (HG0.out j hlt)
      have hs1 := cnts_succ (HG1.out j hlt)
      have hle := cnts_le ds (j * 2 + 1 + 1)
      simp only [Dt.cnt] at hs hs1
      rw [← hK] at e0
      have h1 : k + Dt.cnts (ds.take (j * 2 + 1)) = K + 1 := by omega
      rw [h1, ← Nat.add_assoc, Int.natCast_add] at e1
      have HK := Lib.hid (show K + 1 + 1 = k + Dt.cnts (ds.take ((j + 1) * 2)) by rw [show (j + 1) * 2 = j * 2 + 1 + 1 by omega]; omega)
      have hKb : K ≤ 1099511627776 := by omega
      clear hs hs1 hle hK h1
      go_wp2_with fail
      go_roundw
      case rel => exact ⟨j + 1, K + 1 + 1, by omega, by go_num, by go_num, HK.out, hw⟩
      case measure => simp [intOf]; omega
    · have e : (j * 2) = ds.length := by have := HL.out; omega
      rw [e, List.take_length] at hK
      have HK := Lib.hid hK
      clear e hK
      go_wp2_with fail
      go_ret
      exact ⟨ret_int (by rw [HK.out]), hw⟩

theorem heldStrs (l : List ByteArray) : HeldsQ 107 1 l.length (l.flatMap encS) := by
  intro k x W S v hx hl hk h
  subst hx
  obtain ⟨A, c, rfl, h1, h2, _⟩ := At.sl_inv h
  have H0 := Lib.hid h
  obtain ⟨ds, hds⟩ : ∃ ds, ds = l.flatMap encS := ⟨_, rfl⟩
  have hget : ∀ j (hj : j < l.length), ds[j]? = some (.str l[j]) := fun j hj => by rw [hds]; have := flat_get encS_len l hj (show 0 < 1 by omega); simpa [encS] using this
  rw [← hds] at H0 hk hl ⊢
  have HG := Lib.hid hget
  have HL := Lib.hid hl
  clear h hds hl hget
  go_enter Try.func107, Try.ntmps107
  go_wp2_with fail
  go_loopw [1, 5] (fun s i wr => ∃ j K : Nat, j ≤ l.length ∧ i = .int .i64 j ∧ s = .int .i64 (K : Int) ∧ K = k + Dt.cnts (ds.take j) ∧ Later W wr) (fun _ i _ => l.length - (intOf i).toNat)
  case atStart => exact ⟨0, k, Nat.zero_le _, rfl, rfl, by simp [Dt.cnts], Later.rfl' _⟩
  case round =>
    obtain ⟨j, K, hj, rfl, rfl, hK, hw⟩ := hrel
    by_cases hlt : j < l.length
    · obtain ⟨b, off, rfl, hb, e0⟩ := (H0.out.later hw).markStr (HG.out j hlt)
      rw [← hK] at e0
      have hs := cnts_succ (HG.out j hlt)
      have hle := cnts_le ds (j + 1)
      simp only [Dt.cnt] at hs
      have HK := Lib.hid (show K + 1 = k + Dt.cnts (ds.take (j + 1)) by omega)
      have hKb : K ≤ 1099511627776 := by omega
      have C := markText K wr.drew hKb
      obtain ⟨M, hM⟩ : ∃ M, M = markB K := ⟨_, rfl⟩
      rw [← hM] at C e0
      have HC := Lib.hid C
      have HW := Lib.hid hw
      have hji : (j : Int) < (l.length : Int) := by omega
      clear hs hle hK C hM hw
      go_wp2_with fail
      go_region_held3 (fun w' => w'.cell? ⟨b, off + j, none⟩ = some (.string M))
        (first | exact e0 | exact kept_cell hb1 e0)
        (first | (go_at_call 103; refine HC.out.mono ?_; rintro r w1 ⟨rfl, hb1⟩))
      go_wp2_with fail
      go_roundw
      case rel => exact ⟨j + 1, K + 1, by omega, by go_num, by go_num, HK.out, HW.out.trans ((Later.rfl' _).drew.trans hb1)⟩
      case measure => simp [intOf]; omega
    · have e : j = ds.length := by have := HL.out; omega
      rw [e, List.take_length] at hK
      have HK := Lib.hid hK
      clear e hK
      go_wp2_with fail
      go_ret
      exact ⟨ret_int (by rw [HK.out]), hw⟩

theorem heldRowS (l : List Rw) : HeldsQ 108 2 l.length (l.flatMap encR) := by
  intro k x W S v hx hl hk h
  subst hx
  obtain ⟨A, c, rfl, h1, h2, _⟩ := At.sl_inv h
  have H0 := Lib.hid h
  obtain ⟨ds, hds⟩ : ∃ ds, ds = l.flatMap encR := ⟨_, rfl⟩
  have hget0 : ∀ j (hj : j < l.length), ds[j * 2]? = some (.sl 1 l[j].cells.length (l[j].cells.flatMap encI)) := fun j hj => by rw [hds]; have := flat_get encR_len l hj (show 0 < 2 by omega); simpa [encR] using this
  have hget1 : ∀ j (hj : j < l.length), ds[j * 2 + 1]? = some (.sl 2 l[j].from_.length (l[j].from_.flatMap encO)) := fun j hj => by rw [hds]; have := flat_get encR_len l hj (show 1 < 2 by omega); simpa [encR] using this
  rw [← hds] at H0 hk hl ⊢
  have HG0 := Lib.hid hget0
  have HG1 := Lib.hid hget1
  have HL := Lib.hid hl
  clear h hds hl hget0 hget1
  go_enter Try.func108, Try.ntmps108
  go_wp2_with fail
  go_loopw [1, 5] (fun s i wr => ∃ j K : Nat, j ≤ l.length ∧ i = .int .i64 j ∧ s = .int .i64 (K : Int) ∧ K = k + Dt.cnts (ds.take (j * 2)) ∧ Later W wr) (fun _ i _ => l.length - (intOf i).toNat)
  case atStart => exact ⟨0, k, Nat.zero_le _, rfl, rfl, by simp [Dt.cnts], Later.rfl' _⟩
  case round =>
    obtain ⟨j, K, hj, rfl, rfl, hK, hw⟩ := hrel
    by_cases hlt : j < l.length
    · obtain ⟨b, off, A1, c1, rfl, hb, e0, a0⟩ := (H0.out.later hw).markSub (HG0.out j hlt)
      obtain ⟨b', off', A2, c2, eg, _, e1, a1⟩ := (H0.out.later hw).markSub (HG1.out j hlt)
      simp only [Option.some.injEq, Addr.mk.injEq, and_true] at eg
      obtain ⟨rfl, rfl⟩ := eg
      have hs := cnts_succ (HG0.out j hlt)
      have hs1 := cnts_succ (HG1.out j hlt)
      have hle := cnts_le ds (j * 2 + 1 + 1)
      simp only [Dt.cnt] at hs hs1
      rw [← hK] at a0
      have hn0 : k + Dt.cnts (ds.take (j * 2 + 1)) = K + Dt.cnts (l[j].cells.flatMap encI) := by omega
      rw [hn0] at a1
      rw [← Nat.add_assoc] at e1
      have C1 := fun W' (hW' : Later wr W') => heldIntS l[j].cells K K W' S _ rfl (by rw [flat_len encI_len]) (by omega) (a0.later hW')
      have C2 := fun W' (hW' : Later wr W') => heldOriginS l[j].from_ (K + Dt.cnts (l[j].cells.flatMap encI)) _ W' S _ rfl (by rw [flat_len encO_len]) (by omega) (a1.later hW')
      obtain ⟨N1, hN1⟩ : ∃ N, N = Dt.cnts (l[j].cells.flatMap encI) := ⟨_, rfl⟩
      obtain ⟨N2, hN2⟩ : ∃ N, N = Dt.cnts (l[j].from_.flatMap encO) := ⟨_, rfl⟩
      simp only [← hN1, ← hN2] at C1 C2 hs hs1
      have HC1 := Lib.hid C1
      have HC2 := Lib.hid C2
      have HK := Lib.hid (show K + N1 + N2 = k + Dt.cnts (ds.take ((j + 1) * 2)) by rw [show (j + 1) * 2 = j * 2 + 1 + 1 by omega]; omega)
      have hKb : K + N1 + N2 ≤ 1099511627776 := by omega
      have hp1 : (0 : Int) ≤ ((K + N1 : Nat) : Int) := by omega
      have hp2 : (0 : Int) ≤ ((K + N1 + N2 : Nat) : Int) := by omega
      have HW := Lib.hid hw
      clear hs hs1 hle hK hn0 hN1 hN2 C1 C2 a0 a1 hw
      go_wp2_with fail
      refine (HC1.out _ (Later.rfl' _)).mono ?_; rintro r w1 ⟨rfl, hb1⟩
      have e1' := kept_cell hb1 e1
      go_wp2_with fail
      refine (HC2.out _ hb1).mono ?_; rintro r w2 ⟨rfl, hb2⟩
      have L := Lib.hid (hb1.trans hb2)
      clear hb1 hb2 e0 e1 e1'
      go_wp2_with fail
      go_roundw
      case rel => exact ⟨j + 1, K + N1 + N2, by omega, by go_num, rfl, HK.out, HW.out.trans L.out⟩
      case measure => simp [intOf]; omega
    · have e : (j * 2) = ds.length := by have := HL.out; omega
      rw [e, List.take_length] at hK
      have HK := Lib.hid hK
      clear e hK
      go_wp2_with fail
      go_ret
      exact ⟨ret_int (by rw [HK.out]), hw⟩
end Go.Proofs.Ytghemlokpfipoaa
