/-
  Marks that are held: heldIntS, heldOriginS, heldStringS, heldRowS.
-/
import Derived.Test.YtnfhbppmbpgfaaaDoorD9
namespace Go.Proofs.YtnfhbppmbpgfaaaDoor
open Go.ChangeShapes Go.WideShapes Go.ChangeAt Go.RowKit
set_option linter.unusedVariables false
set_option linter.unusedSimpArgs false

theorem At.markInt {w : World} {S : Nat → Prop} {s n c k p : Nat} {A : Option Addr} {ds : List Dt} {m : Int} (h : At w S (.sl s n (Dt.marks markB ds k)) (.slice A n c)) (hd : ds[p]? = some (.int m)) :
    ∃ b off, A = some ⟨b, off, none⟩ ∧ b < w.heap.size ∧ w.cell? ⟨b, off + p, none⟩ = some (.int .i64 ((k + Dt.cnts (ds.take p) : Nat) : Int)) := by
  have hm : (Dt.marks markB ds k)[p]? = some (.int ((k + Dt.cnts (ds.take p) : Nat) : Int)) := by rw [get_marks, hd]; rfl
  obtain ⟨b, off, e, hl, _, hc⟩ := At.cells h (by intro e; rw [e] at hm; simp at hm)
  obtain ⟨u, h1, h2⟩ := hc p _ hm
  obtain ⟨rfl, _⟩ := h2.int_inv
  exact ⟨b, off, e, hl, h1⟩
theorem At.markStr {w : World} {S : Nat → Prop} {s n c k p : Nat} {A : Option Addr} {ds : List Dt} {m : ByteArray} (h : At w S (.sl s n (Dt.marks markB ds k)) (.slice A n c)) (hd : ds[p]? = some (.str m)) :
    ∃ b off, A = some ⟨b, off, none⟩ ∧ b < w.heap.size ∧ w.cell? ⟨b, off + p, none⟩ = some (.string (markB (k + Dt.cnts (ds.take p)))) := by
  have hm : (Dt.marks markB ds k)[p]? = some (.str (markB (k + Dt.cnts (ds.take p)))) := by rw [get_marks, hd]; rfl
  obtain ⟨b, off, e, hl, _, hc⟩ := At.cells h (by intro e; rw [e] at hm; simp at hm)
  obtain ⟨u, h1, h2⟩ := hc p _ hm
  obtain ⟨rfl, _⟩ := h2.str_inv
  exact ⟨b, off, e, hl, h1⟩
theorem At.markSub {w : World} {S : Nat → Prop} {s n c k p s' n' : Nat} {A : Option Addr} {ds ds' : List Dt} (h : At w S (.sl s n (Dt.marks markB ds k)) (.slice A n c)) (hd : ds[p]? = some (.sl s' n' ds')) :
    ∃ b off A' c', A = some ⟨b, off, none⟩ ∧ b < w.heap.size ∧ w.cell? ⟨b, off + p, none⟩ = some (.slice A' n' c') ∧ At w S (.sl s' n' (Dt.marks markB ds' (k + Dt.cnts (ds.take p)))) (.slice A' n' c') := by
  have hm : (Dt.marks markB ds k)[p]? = some (.sl s' n' (Dt.marks markB ds' (k + Dt.cnts (ds.take p)))) := by rw [get_marks, hd]; rfl
  obtain ⟨b, off, e, hl, _, hc⟩ := At.cells h (by intro e; rw [e] at hm; simp at hm)
  obtain ⟨u, h1, h2⟩ := hc p _ hm
  obtain ⟨A', c', rfl, _⟩ := h2.sl_inv
  exact ⟨b, off, A', c', e, hl, h1, h2⟩
/-- What a holding function answers. -/
def HeldsQ (fn : FuncId) (s n : Nat) (ds : List Dt) : Prop := ∀ (k : Nat) (x : Int) (W : World) (S : Nat → Prop) (v : Value), x = (k : Int) → ds.length = n * s → k + Dt.cnts ds ≤ 1099511627776 → At W S (.sl s n (Dt.marks markB ds k)) v →
  Calls Tryd.prog fn #[v, .int .i64 x] W fun r w' => r = .returned (.int .i64 ((k + Dt.cnts ds : Nat) : Int)) ∧ Later W w'


theorem heldStrs (l : List ByteArray) : HeldsQ 31 1 l.length (l.flatMap encS) := by
  intro k x W S v hx hl hk h
  subst hx
  obtain ⟨A, c, rfl, h1, h2, _⟩ := At.sl_inv h
  have H0 := Lib.hid h
  obtain ⟨ds, hds⟩ : ∃ ds, ds = l.flatMap encS := ⟨_, rfl⟩
  have hget : ∀ j (hj : j < l.length), ds[j]? = some (.str l[j]) := fun j hj => by rw [hds]; have := flat_get encS_len l hj (show 0 < 1 by omega); simpa [encS] using this
  rw [← hds] at H0 hk hl ⊢
  have HG := Lib.hid hget
  have HL := Lib.hid hl
  clear h hds hl hget
  go_enter Tryd.func31, Tryd.ntmps31
  go_wp2_with fail
  go_loopw [1, 5] (fun s i wr => ∃ j K : Nat, j ≤ l.length ∧ i = .int .i64 j ∧ s = .int .i64 (K : Int) ∧ K = k + Dt.cnts (ds.take j) ∧ Later W wr) (fun _ i _ => l.length - (intOf i).toNat)
  case atStart => exact ⟨0, k, Nat.zero_le _, rfl, rfl, by simp [Dt.cnts], Later.rfl' _⟩
  case round =>
    obtain ⟨j, K, hj, rfl, rfl, hK, hw⟩ := hrel
    by_cases hlt : j < l.length
    · obtain ⟨b, off, rfl, hb, e0⟩ := (H0.out.later hw).markStr (HG.out j hlt)
      rw [← hK] at e0
      have hs := cnts_succ (HG.out j hlt)
      have hle := cnts_le ds (j + 1)
      simp only [Dt.cnt] at hs
      have HK := Lib.hid (show K + 1 = k + Dt.cnts (ds.take (j + 1)) by omega)
      have hKb : K ≤ 1099511627776 := by omega
      have C := markText K wr.drew hKb
      obtain ⟨M, hM⟩ : ∃ M, M = markB K := ⟨_, rfl⟩
      rw [← hM] at C e0
      have HC := Lib.hid C
      have HW := Lib.hid hw
      have hji : (j : Int) < (l.length : Int) := by omega
      clear hs hle hK C hM hw
      go_wp2_with fail
      go_region_held3 (fun w' => w'.cell? ⟨b, off + j, none⟩ = some (.string M))
        (first | exact e0 | exact kept_cell hb1 e0)
        (first | (go_at_call 39; refine HC.out.mono ?_; rintro r w1 ⟨rfl, hb1⟩))
      go_wp2_with fail
      go_roundw
      case rel => exact ⟨j + 1, K + 1, by omega, by go_num, by go_num, HK.out, HW.out.trans ((Later.rfl' _).drew.trans hb1)⟩
      case measure => simp [intOf]; omega
    · have e : j = ds.length := by have := HL.out; omega
      rw [e, List.take_length] at hK
      have HK := Lib.hid hK
      clear e hK
      go_wp2_with fail
      go_ret
      exact ⟨ret_int (by rw [HK.out]), hw⟩

end Go.Proofs.YtnfhbppmbpgfaaaDoor
