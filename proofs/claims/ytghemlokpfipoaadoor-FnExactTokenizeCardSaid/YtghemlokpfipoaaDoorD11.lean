/-
  Marks that are held: heldIntS, heldOriginS, heldStringS, heldRowS.
-/
import Derived.Test.YtghemlokpfipoaaDoorD9
namespace Go.Proofs.YtghemlokpfipoaaDoor
open Go.ChangeShapes Go.WideShapes Go.ChangeAt Go.RowKit
set_option linter.unusedVariables false
set_option linter.unusedSimpArgs false

theorem At.markInt {w : World} {S : Nat → Prop} {s n c k p : Nat} {A : Option Addr} {ds : List Dt} {m : Int} (h : At w S (.sl s n (Dt.marks markB ds k)) (.slice A n c)) (hd : ds[p]? = some (.int m)) :
    ∃ b off, A = some ⟨b, off, none⟩ ∧ b < w.heap.size ∧ w.cell? ⟨b, off + p, none⟩ = some (.int .i64 ((k + Dt.cnts (ds.take p) : Nat) : Int)) := by
  have hm : (Dt.marks markB ds k)[p]? = some (.int ((k + Dt.cnts (ds.take p) : Nat) : Int)) := by rw [get_marks, hd]; rfl
  obtain ⟨b, off, e, hl, _, hc⟩ := At.cells h (by intro e; rw [e] at hm; simp at hm)
  obtain ⟨u, h1, h2⟩ := hc p _ hm
  obtain ⟨rfl, _⟩ := h2.int_inv
  exact ⟨b, off, e, hl, h1⟩
theorem At.markStr {w : World} {S : Nat → Prop} {s n c k p : Nat} {A : Option Addr} {ds : List Dt} {m : ByteArray} (h : At w S (.sl s n (Dt.marks markB ds k)) (.slice A n c)) (hd : ds[p]? = some (.str m)) :
    ∃ b off, A = some ⟨b, off, none⟩ ∧ b < w.heap.size ∧ w.cell? ⟨b, off + p, none⟩ = some (.string (markB (k + Dt.cnts (ds.take p)))) := by
  have hm : (Dt.marks markB ds k)[p]? = some (.str (markB (k + Dt.cnts (ds.take p)))) := by rw [get_marks, hd]; rfl
  obtain ⟨b, off, e, hl, _, hc⟩ := At.cells h (by intro e; rw [e] at hm; simp at hm)
  obtain ⟨u, h1, h2⟩ := hc p _ hm
  obtain ⟨rfl, _⟩ := h2.str_inv
  exact ⟨b, off, e, hl, h1⟩
theorem At.markSub {w : World} {S : Nat → Prop} {s n c k p s' n' : Nat} {A : Option Addr} {ds ds' : List Dt} (h : At w S (.sl s n (Dt.marks markB ds k)) (.slice A n c)) (hd : ds[p]? = some (.sl s' n' ds')) :
    ∃ b off A' c', A = some ⟨b, off, none⟩ ∧ b < w.heap.size ∧ w.cell? ⟨b, off + p, none⟩ = some (.slice A' n' c') ∧ At w S (.sl s' n' (Dt.marks markB ds' (k + Dt.cnts (ds.take p)))) (.slice A' n' c') := by
  have hm : (Dt.marks markB ds k)[p]? = some (.sl s' n' (Dt.marks markB ds' (k + Dt.cnts (ds.take p)))) := by rw [get_marks, hd]; rfl
  obtain ⟨b, off, e, hl, _, hc⟩ := At.cells h (by intro e; rw [e] at hm; simp at hm)
  obtain ⟨u, h1, h2⟩ := hc p _ hm
  obtain ⟨A', c', rfl, _⟩ := h2.sl_inv
  exact ⟨b, off, A', c', e, hl, h1, h2⟩
/-- What a holding function answers. -/
def HeldsQ (fn : FuncId) (s n : Nat) (ds : List Dt) : Prop := ∀ (k : Nat) (x : Int) (W : World) (S : Nat → Prop) (v : Value), x = (k : Int) → ds.length = n * s → k + Dt.cnts ds ≤ 1099511627776 → At W S (.sl s n (Dt.marks markB ds k)) v →
  Calls Tryd.prog fn #[v, .int .i64 x] W fun r w' => r = .returned (.int .i64 ((k + Dt.cnts ds : Nat) : Int)) ∧ Later W w'


end Go.Proofs.YtghemlokpfipoaaDoor
