/-
  The laws' marks on texts: markText. Values: the laws' own equality at equal data: eqIntS, eqOrigin, eqOriginS, eqRow, eqRowS, eqValue, eqValueS. Marks: what the laws write into what a call owns: markIntS, markOriginS, markStringS, markRowS. Marks: markStringS, markRowS, markValueS, markValue. Marks that are held: heldIntS, heldOriginS, heldStringS, heldRowS.
-/
import Derived.Test.YtghemlokpfipoaaDoorYOwn
import Derived.Test.YtghemlokpfipoaaDoorYFrame
import Derived.Laws.BytesString
import Derived.Deep.RegionHeld3
import Derived.Test.YtghemlokpfipoaaDoorYD6
import Derived.Deep.QuietTactic
import Derived.BigQuiet
import Derived.StillTailTactics
namespace Go.Proofs.YtghemlokpfipoaaDoor
open Go.ChangeShapes Go.WideShapes Go.ChangeAt Go.RowKit
set_option linter.unusedVariables false
set_option linter.unusedSimpArgs false

/-- A number's digits. -/
def digB (k : Nat) : ByteArray := if h : k = 0 then ByteArray.empty else digB (k / 10) ++ ⟨#[UInt8.ofNat (48 + k % 10)]⟩
decreasing_by omega
theorem digB_zero : digB 0 = ByteArray.empty := by unfold digB; rw [dif_pos rfl]
theorem digB_pos {k : Nat} (h : 0 < k) : digB k = digB (k / 10) ++ ⟨#[UInt8.ofNat (48 + k % 10)]⟩ := by
  conv => lhs; unfold digB
  rw [dif_neg (by omega)]
theorem size_digB (k : Nat) : (digB k).size ≤ k := by
  induction k using Nat.strongRecOn with
  | _ k ih =>
    rcases Nat.eq_zero_or_pos k with h | h
    · subst h; rw [digB_zero]; exact Nat.le_refl _
    · rw [digB_pos h, ByteArray.size_append]
      have := ih (k / 10) (by omega)
      have e : (ByteArray.mk #[UInt8.ofNat (48 + k % 10)]).size = 1 := rfl
      rw [e]
      omega
def markB (k : Nat) : ByteArray := if k = 0 then ⟨#[109, 48]⟩ else ⟨#[109]⟩ ++ digB k

/-- One byte as a string. -/
theorem conv_byte (w : World) (j : Nat) (hj : j < 256) : (convert 28 9 (.slice (some ⟨w.heap.size, 0, none⟩) 1 1)).run Tryd.prog (w.alloc (.cells #[.int .u8 (j : Int)] 5)) = .ok (.string ⟨#[UInt8.ofNat j]⟩) (w.alloc (.cells #[.int .u8 (j : Int)] 5)) := by
  rw [run_convert_bytes_string _ _ _ 5 _ _ _ Tryd.underlying28 Tryd.underlying5 Tryd.underlying9]
  rw [run_bytesToString _ _ 1 1 [(j : Int)] (by simp [loadCells, loadCellsFrom, Addr.add])]
  rfl

theorem markText (k : Nat) (W : World) (hk : k ≤ 1099511627776) : Calls Tryd.prog 19 #[.int .i64 k] W fun r w' => r = .returned (.string (markB k)) ∧ Later W w' := by
  rcases Nat.eq_zero_or_pos k with h0 | h0
  · subst h0
    go_enter Tryd.func19, Tryd.ntmps19
    go_wp2
    go_ret
    exact ⟨rfl, Later.rfl' _⟩
  · have hp : (0 : Int) < (k : Int) := by omega
    have HV : Hid (markB k = ⟨#[109]⟩ ++ digB k) := by unfold Hid markB; rw [if_neg (by omega)]
    have hsz := size_digB k
    go_enter Tryd.func19, Tryd.ntmps19
    go_wp2_with fail
    go_loopw [0, 3] (fun n o wr => ∃ (j : Nat) (s : ByteArray), n = .int .i64 j ∧ o = .string s ∧ digB j ++ s = digB k ∧ j ≤ k ∧ Later W wr) (fun n _ _ => (intOf n).toNat)
    case atStart => exact ⟨k, ByteArray.empty, rfl, rfl, by simp, Nat.le_refl _, Later.rfl' _⟩
    case round =>
      obtain ⟨j, s, rfl, rfl, hs, hj, hw⟩ := hrel
      have hss : s.size ≤ 1099511627776 := by have := congrArg ByteArray.size hs; rw [ByteArray.size_append] at this; omega
      by_cases hj0 : 0 < j
      · have hjp : (0 : Int) < (j : Int) := by omega
        rw [digB_pos hj0] at hs
        have hcv := conv_byte wr (48 + j % 10) (by omega)
        rw [show (((48 + j % 10 : Nat)) : Int) = 48 + (j : Int) % 10 by omega] at hcv
        obtain ⟨D, hD⟩ : ∃ D, D = ByteArray.mk #[UInt8.ofNat (48 + j % 10)] := ⟨_, rfl⟩
        have hDs : D.size = 1 := by rw [hD]; rfl
        rw [← hD] at hcv hs
        clear hD
        have HS := Lib.hid hs
        have HW := Lib.hid hw
        clear hs hw
        go_wp2_with fail
        go_roundw
        case rel => exact ⟨j / 10, D ++ s, by go_num, rfl, by rw [← ByteArray.append_assoc]; exact HS.out, by omega, HW.out.trans ((Later.rfl' _).alloc _)⟩
        case measure => simp [intOf]; omega
      · have : j = 0 := by omega
        subst this
        rw [digB_zero] at hs
        have hs2 : s = digB k := by simpa using hs
        clear hs
        subst hs2
        go_wp2_with fail
        go_ret
        exact ⟨by rw [HV.out]; rfl, hw⟩

end Go.Proofs.YtghemlokpfipoaaDoor
namespace Go.Proofs.YtghemlokpfipoaaDoor
open Go.ChangeShapes Go.WideShapes Go.ChangeAt Go.RowKit
set_option linter.unusedVariables false
set_option linter.unusedSimpArgs false
set_option maxRecDepth 100000

theorem box2 {W w1 : World} {a b : Array Value} {t u : TypeId} (hb : Later ((W.alloc (.cells a t)).alloc (.cells b u)) w1) :
    Box w1 W.heap.size a.toList ∧ Box w1 (W.heap.size + 1) b.toList ∧ W.heap.size + 2 ≤ w1.heap.size ∧ Later W w1 := by
  have h1 := ((box_alloc W a t).later ((Later.rfl' _).alloc (.cells b u))).later hb
  have h2 := (box_alloc (W.alloc (.cells a t)) b u).later hb
  have hs := hb.size
  simp only [World.size_alloc] at h2 hs
  exact ⟨h1, h2, by omega, (((Later.rfl' _).alloc _).alloc _).trans hb⟩

end Go.Proofs.YtghemlokpfipoaaDoor
namespace Go.Proofs.YtghemlokpfipoaaDoor
open Go.ChangeShapes Go.WideShapes Go.ChangeAt Go.RowKit
set_option linter.unusedVariables false
set_option linter.unusedSimpArgs false

/-- A slice of which the first p cells are marked from k on. -/
def OwnMix (w : World) (S : Nat → Prop) (s n : Nat) (ds : List Dt) (k p : Nat) (v : Value) : Prop := Own w S (.sl s n (mixd ds (Dt.marks markB ds k) p)) v
theorem OwnMix.later {w w' : World} {S : Nat → Prop} {s n : Nat} {ds : List Dt} {k p : Nat} {v : Value} (h : OwnMix w S s n ds k p v) (hb : Later w w') : OwnMix w' S s n ds k p v := Own.later h hb
theorem OwnMix.start {w : World} {S : Nat → Prop} {s n : Nat} {ds : List Dt} {v : Value} (h : Own w S (.sl s n ds) v) (k : Nat) : OwnMix w S s n ds k 0 v := by
  unfold OwnMix
  rw [mixd_zero]
  exact h
theorem OwnMix.done {w : World} {S : Nat → Prop} {s n : Nat} {ds : List Dt} {k : Nat} {v : Value} (h : OwnMix w S s n ds k ds.length v) : Own w S (.sl s n (Dt.marks markB ds k)) v := by
  unfold OwnMix at h
  rw [mixd_all (length_marks markB ds k)] at h
  exact h
/-- A cell lies, and may be written. -/
theorem OwnMix.cell {w : World} {S : Nat → Prop} {s n c : Nat} {A : Option Addr} {ds : List Dt} {k p i : Nat} {d : Dt} (h : OwnMix w S s n ds k p (.slice A n c)) (hp : p ≤ i) (hd : ds[i]? = some d) :
    ∃ g u, A = some ⟨g, 0, none⟩ ∧ S g ∧ g < w.heap.size ∧ w.cell? ⟨g, i, none⟩ = some u ∧ w.frozen? ⟨g, i, none⟩ = false := by
  have hi : i < ds.length := (List.getElem?_eq_some_iff.1 hd).1
  obtain ⟨g, u, e, h1, h2, h3, h4, _⟩ := Own.cell h (i := i) (d := d) (by rw [mixd_get (length_marks markB ds k) hp (by omega)]; exact hd)
  exact ⟨g, u, e, h1, h2, h3, h4⟩
theorem between_small {n : Nat} (h : n ≤ 1099511627776) : Between64 (n : Int) := by unfold Between64; omega
theorem OwnMix.int {w : World} {S : Nat → Prop} {s n c g : Nat} {ds : List Dt} {k p : Nat} {m x : Int} (h : OwnMix w S s n ds k p (.slice (some ⟨g, 0, none⟩) n c)) (hd : ds[p]? = some (.int m)) (hx : x = ((k + Dt.cnts (ds.take p) : Nat) : Int)) (hb : k + Dt.cnts (ds.take p) ≤ 1099511627776) :
    OwnMix (w.setCell ⟨g, p, none⟩ (.int .i64 x)) S s n ds k (p + 1) (.slice (some ⟨g, 0, none⟩) n c) := by
  have hi : p < ds.length := (List.getElem?_eq_some_iff.1 hd).1
  obtain ⟨g', u, e, _, _, _, _, T, _, _, _, _, hst⟩ := Own.cell h (i := p) (d := .int m) (by rw [mixd_get (length_marks markB ds k) (Nat.le_refl _) (by omega)]; exact hd)
  simp only [Option.some.injEq, Addr.mk.injEq, and_true] at e
  subst e
  have := hst (.int x) (.int .i64 x) fun T w' => .int _ _ (by rw [hx]; exact between_small hb)
  unfold OwnMix
  rw [← mixd_set (length_marks markB ds k) (p := p) (d := .int x) (by rw [get_marks, hd, hx]; rfl)]
  exact this
theorem OwnMix.str {w : World} {S : Nat → Prop} {s n c g : Nat} {ds : List Dt} {k p : Nat} {m x : ByteArray} (h : OwnMix w S s n ds k p (.slice (some ⟨g, 0, none⟩) n c)) (hd : ds[p]? = some (.str m)) (hx : x = markB (k + Dt.cnts (ds.take p))) (hb : x.size ≤ 9223372036854775807) :
    OwnMix (w.setCell ⟨g, p, none⟩ (.string x)) S s n ds k (p + 1) (.slice (some ⟨g, 0, none⟩) n c) := by
  have hi : p < ds.length := (List.getElem?_eq_some_iff.1 hd).1
  obtain ⟨g', u, e, _, _, _, _, T, _, _, _, _, hst⟩ := Own.cell h (i := p) (d := .str m) (by rw [mixd_get (length_marks markB ds k) (Nat.le_refl _) (by omega)]; exact hd)
  simp only [Option.some.injEq, Addr.mk.injEq, and_true] at e
  subst e
  have := hst (.str x) (.string x) fun T w' => .str _ _ hb
  unfold OwnMix
  rw [← mixd_set (length_marks markB ds k) (p := p) (d := .str x) (by rw [get_marks, hd, hx]; rfl)]
  exact this
theorem OwnMix.sub {w : World} {S : Nat → Prop} {s n c : Nat} {A : Option Addr} {ds : List Dt} {k p : Nat} {s' n' : Nat} {ds' : List Dt} (h : OwnMix w S s n ds k p (.slice A n c)) (hd : ds[p]? = some (.sl s' n' ds')) :
    ∃ g A' c' T, A = some ⟨g, 0, none⟩ ∧ S g ∧ w.cell? ⟨g, p, none⟩ = some (.slice A' n' c') ∧ n' ≤ c' ∧ c' ≤ 9223372036854775807 ∧ (∀ b, T b → S b) ∧ Own w T (.sl s' n' ds') (.slice A' n' c') ∧
      ∀ w', Own w' T (.sl s' n' (Dt.marks markB ds' (k + Dt.cnts (ds.take p)))) (.slice A' n' c') → Chg T w w' → OwnMix w' S s n ds k (p + 1) (.slice A n c) := by
  have hi : p < ds.length := (List.getElem?_eq_some_iff.1 hd).1
  obtain ⟨g, u, e, h1, h2, h3, h4, T, h5, h6, h7, h8, _⟩ := Own.cell h (i := p) (d := .sl s' n' ds') (by rw [mixd_get (length_marks markB ds k) (Nat.le_refl _) (by omega)]; exact hd)
  obtain ⟨A', c', rfl, g1, g2, _⟩ := h7.at_.sl_inv
  refine ⟨g, A', c', T, e, h1, h3, g1, g2, h5, h7, fun w' ho hc => ?_⟩
  have := h8 w' _ ho hc
  unfold OwnMix
  rw [← mixd_set (length_marks markB ds k) (p := p) (d := .sl s' n' (Dt.marks markB ds' (k + Dt.cnts (ds.take p)))) (by rw [get_marks, hd]; rfl)]
  exact this
theorem own_shape' {w : World} {S : Nat → Prop} {s n : Nat} {ds : List Dt} {v : Value} (h : Own w S (.sl s n ds) v) : ∃ A c, v = .slice A n c ∧ n ≤ c ∧ c ≤ 9223372036854775807 ∧ ds.length = n * s := h.at_.sl_inv

/-- What a marking function does. -/
def MarksQ (fn : FuncId) (s n : Nat) (ds : List Dt) : Prop := ∀ (k : Nat) (W : World) (S : Nat → Prop) (v : Value), k + Dt.cnts ds ≤ 1099511627776 → Own W S (.sl s n ds) v →
  Calls Tryd.prog fn #[v, .int .i64 k] W fun r w' => r = .returned (.int .i64 ((k + Dt.cnts ds : Nat) : Int)) ∧ Own w' S (.sl s n (Dt.marks markB ds k)) v ∧ Chg S W w'

end Go.Proofs.YtghemlokpfipoaaDoor
namespace Go.Proofs.YtghemlokpfipoaaDoor
open Go.ChangeShapes Go.WideShapes Go.ChangeAt Go.RowKit
set_option linter.unusedVariables false
set_option linter.unusedSimpArgs false

theorem size_markB (k : Nat) : (markB k).size ≤ k + 2 := by
  unfold markB
  split
  · show 2 ≤ _; omega
  · rw [ByteArray.size_append]
    have := size_digB k
    show 1 + _ ≤ _
    omega
theorem markTextX (x : Int) (k : Nat) (hx : x = (k : Int)) (hk : k ≤ 1099511627776) (W : World) : Calls Tryd.prog 19 #[.int .i64 x] W fun r w' => r = .returned (.string (markB k)) ∧ Later W w' := by
  subst hx
  exact markText k W hk

theorem marksQ_at {fn : FuncId} {s n : Nat} {ds : List Dt} (h : MarksQ fn s n ds) {x : Int} (k : Nat) (hx : x = (k : Int)) (hk : k + Dt.cnts ds ≤ 1099511627776) {W : World} {S : Nat → Prop} {v : Value} (ho : Own W S (.sl s n ds) v) :
    Calls Tryd.prog fn #[v, .int .i64 x] W fun r w' => r = .returned (.int .i64 ((k + Dt.cnts ds : Nat) : Int)) ∧ Own w' S (.sl s n (Dt.marks markB ds k)) v ∧ Chg S W w' := by
  subst hx
  exact h k W S v hk ho

end Go.Proofs.YtghemlokpfipoaaDoor
namespace Go.Proofs.YtghemlokpfipoaaDoor
open Go.ChangeShapes Go.WideShapes Go.ChangeAt Go.RowKit
set_option linter.unusedVariables false
set_option linter.unusedSimpArgs false

theorem At.markInt {w : World} {S : Nat → Prop} {s n c k p : Nat} {A : Option Addr} {ds : List Dt} {m : Int} (h : At w S (.sl s n (Dt.marks markB ds k)) (.slice A n c)) (hd : ds[p]? = some (.int m)) :
    ∃ b off, A = some ⟨b, off, none⟩ ∧ b < w.heap.size ∧ w.cell? ⟨b, off + p, none⟩ = some (.int .i64 ((k + Dt.cnts (ds.take p) : Nat) : Int)) := by
  have hm : (Dt.marks markB ds k)[p]? = some (.int ((k + Dt.cnts (ds.take p) : Nat) : Int)) := by rw [get_marks, hd]; rfl
  obtain ⟨b, off, e, hl, _, hc⟩ := At.cells h (by intro e; rw [e] at hm; simp at hm)
  obtain ⟨u, h1, h2⟩ := hc p _ hm
  obtain ⟨rfl, _⟩ := h2.int_inv
  exact ⟨b, off, e, hl, h1⟩
theorem At.markStr {w : World} {S : Nat → Prop} {s n c k p : Nat} {A : Option Addr} {ds : List Dt} {m : ByteArray} (h : At w S (.sl s n (Dt.marks markB ds k)) (.slice A n c)) (hd : ds[p]? = some (.str m)) :
    ∃ b off, A = some ⟨b, off, none⟩ ∧ b < w.heap.size ∧ w.cell? ⟨b, off + p, none⟩ = some (.string (markB (k + Dt.cnts (ds.take p)))) := by
  have hm : (Dt.marks markB ds k)[p]? = some (.str (markB (k + Dt.cnts (ds.take p)))) := by rw [get_marks, hd]; rfl
  obtain ⟨b, off, e, hl, _, hc⟩ := At.cells h (by intro e; rw [e] at hm; simp at hm)
  obtain ⟨u, h1, h2⟩ := hc p _ hm
  obtain ⟨rfl, _⟩ := h2.str_inv
  exact ⟨b, off, e, hl, h1⟩
theorem At.markSub {w : World} {S : Nat → Prop} {s n c k p s' n' : Nat} {A : Option Addr} {ds ds' : List Dt} (h : At w S (.sl s n (Dt.marks markB ds k)) (.slice A n c)) (hd : ds[p]? = some (.sl s' n' ds')) :
    ∃ b off A' c', A = some ⟨b, off, none⟩ ∧ b < w.heap.size ∧ w.cell? ⟨b, off + p, none⟩ = some (.slice A' n' c') ∧ At w S (.sl s' n' (Dt.marks markB ds' (k + Dt.cnts (ds.take p)))) (.slice A' n' c') := by
  have hm : (Dt.marks markB ds k)[p]? = some (.sl s' n' (Dt.marks markB ds' (k + Dt.cnts (ds.take p)))) := by rw [get_marks, hd]; rfl
  obtain ⟨b, off, e, hl, _, hc⟩ := At.cells h (by intro e; rw [e] at hm; simp at hm)
  obtain ⟨u, h1, h2⟩ := hc p _ hm
  obtain ⟨A', c', rfl, _⟩ := h2.sl_inv
  exact ⟨b, off, A', c', e, hl, h1, h2⟩
/-- What a holding function answers. -/
def HeldsQ (fn : FuncId) (s n : Nat) (ds : List Dt) : Prop := ∀ (k : Nat) (x : Int) (W : World) (S : Nat → Prop) (v : Value), x = (k : Int) → ds.length = n * s → k + Dt.cnts ds ≤ 1099511627776 → At W S (.sl s n (Dt.marks markB ds k)) v →
  Calls Tryd.prog fn #[v, .int .i64 x] W fun r w' => r = .returned (.int .i64 ((k + Dt.cnts ds : Nat) : Int)) ∧ Later W w'


end Go.Proofs.YtghemlokpfipoaaDoor
