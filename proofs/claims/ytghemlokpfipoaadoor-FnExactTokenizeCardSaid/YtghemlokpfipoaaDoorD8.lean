/-
  Marks: what the laws write into what a call owns: markIntS, markOriginS, markStringS, markRowS.
-/
import Derived.Test.YtghemlokpfipoaaDoorD7
import Derived.Test.YtghemlokpfipoaaDoorMk
namespace Go.Proofs.YtghemlokpfipoaaDoor
open Go.ChangeShapes Go.WideShapes Go.ChangeAt Go.RowKit
set_option linter.unusedVariables false
set_option linter.unusedSimpArgs false

/-- A slice of which the first p cells are marked from k on. -/
def OwnMix (w : World) (S : Nat → Prop) (s n : Nat) (ds : List Dt) (k p : Nat) (v : Value) : Prop := Own w S (.sl s n (mixd ds (Dt.marks markB ds k) p)) v
theorem OwnMix.later {w w' : World} {S : Nat → Prop} {s n : Nat} {ds : List Dt} {k p : Nat} {v : Value} (h : OwnMix w S s n ds k p v) (hb : Later w w') : OwnMix w' S s n ds k p v := Own.later h hb
theorem OwnMix.start {w : World} {S : Nat → Prop} {s n : Nat} {ds : List Dt} {v : Value} (h : Own w S (.sl s n ds) v) (k : Nat) : OwnMix w S s n ds k 0 v := by
  unfold OwnMix
  rw [mixd_zero]
  exact h
theorem OwnMix.done {w : World} {S : Nat → Prop} {s n : Nat} {ds : List Dt} {k : Nat} {v : Value} (h : OwnMix w S s n ds k ds.length v) : Own w S (.sl s n (Dt.marks markB ds k)) v := by
  unfold OwnMix at h
  rw [mixd_all (length_marks markB ds k)] at h
  exact h
/-- A cell lies, and may be written. -/
theorem OwnMix.cell {w : World} {S : Nat → Prop} {s n c : Nat} {A : Option Addr} {ds : List Dt} {k p i : Nat} {d : Dt} (h : OwnMix w S s n ds k p (.slice A n c)) (hp : p ≤ i) (hd : ds[i]? = some d) :
    ∃ g u, A = some ⟨g, 0, none⟩ ∧ S g ∧ g < w.heap.size ∧ w.cell? ⟨g, i, none⟩ = some u ∧ w.frozen? ⟨g, i, none⟩ = false := by
  have hi : i < ds.length := (List.getElem?_eq_some_iff.1 hd).1
  obtain ⟨g, u, e, h1, h2, h3, h4, _⟩ := Own.cell h (i := i) (d := d) (by rw [mixd_get (length_marks markB ds k) hp (by omega)]; exact hd)
  exact ⟨g, u, e, h1, h2, h3, h4⟩
theorem between_small {n : Nat} (h : n ≤ 1099511627776) : Between64 (n : Int) := by unfold Between64; omega
theorem OwnMix.int {w : World} {S : Nat → Prop} {s n c g : Nat} {ds : List Dt} {k p : Nat} {m x : Int} (h : OwnMix w S s n ds k p (.slice (some ⟨g, 0, none⟩) n c)) (hd : ds[p]? = some (.int m)) (hx : x = ((k + Dt.cnts (ds.take p) : Nat) : Int)) (hb : k + Dt.cnts (ds.take p) ≤ 1099511627776) :
    OwnMix (w.setCell ⟨g, p, none⟩ (.int .i64 x)) S s n ds k (p + 1) (.slice (some ⟨g, 0, none⟩) n c) := by
  have hi : p < ds.length := (List.getElem?_eq_some_iff.1 hd).1
  obtain ⟨g', u, e, _, _, _, _, T, _, _, _, _, hst⟩ := Own.cell h (i := p) (d := .int m) (by rw [mixd_get (length_marks markB ds k) (Nat.le_refl _) (by omega)]; exact hd)
  simp only [Option.some.injEq, Addr.mk.injEq, and_true] at e
  subst e
  have := hst (.int x) (.int .i64 x) fun T w' => .int _ _ (by rw [hx]; exact between_small hb)
  unfold OwnMix
  rw [← mixd_set (length_marks markB ds k) (p := p) (d := .int x) (by rw [get_marks, hd, hx]; rfl)]
  exact this
theorem OwnMix.str {w : World} {S : Nat → Prop} {s n c g : Nat} {ds : List Dt} {k p : Nat} {m x : ByteArray} (h : OwnMix w S s n ds k p (.slice (some ⟨g, 0, none⟩) n c)) (hd : ds[p]? = some (.str m)) (hx : x = markB (k + Dt.cnts (ds.take p))) (hb : x.size ≤ 9223372036854775807) :
    OwnMix (w.setCell ⟨g, p, none⟩ (.string x)) S s n ds k (p + 1) (.slice (some ⟨g, 0, none⟩) n c) := by
  have hi : p < ds.length := (List.getElem?_eq_some_iff.1 hd).1
  obtain ⟨g', u, e, _, _, _, _, T, _, _, _, _, hst⟩ := Own.cell h (i := p) (d := .str m) (by rw [mixd_get (length_marks markB ds k) (Nat.le_refl _) (by omega)]; exact hd)
  simp only [Option.some.injEq, Addr.mk.injEq, and_true] at e
  subst e
  have := hst (.str x) (.string x) fun T w' => .str _ _ hb
  unfold OwnMix
  rw [← mixd_set (length_marks markB ds k) (p := p) (d := .str x) (by rw [get_marks, hd, hx]; rfl)]
  exact this
theorem OwnMix.sub {w : World} {S : Nat → Prop} {s n c : Nat} {A : Option Addr} {ds : List Dt} {k p : Nat} {s' n' : Nat} {ds' : List Dt} (h : OwnMix w S s n ds k p (.slice A n c)) (hd : ds[p]? = some (.sl s' n' ds')) :
    ∃ g A' c' T, A = some ⟨g, 0, none⟩ ∧ S g ∧ w.cell? ⟨g, p, none⟩ = some (.slice A' n' c') ∧ n' ≤ c' ∧ c' ≤ 9223372036854775807 ∧ (∀ b, T b → S b) ∧ Own w T (.sl s' n' ds') (.slice A' n' c') ∧
      ∀ w', Own w' T (.sl s' n' (Dt.marks markB ds' (k + Dt.cnts (ds.take p)))) (.slice A' n' c') → Chg T w w' → OwnMix w' S s n ds k (p + 1) (.slice A n c) := by
  have hi : p < ds.length := (List.getElem?_eq_some_iff.1 hd).1
  obtain ⟨g, u, e, h1, h2, h3, h4, T, h5, h6, h7, h8, _⟩ := Own.cell h (i := p) (d := .sl s' n' ds') (by rw [mixd_get (length_marks markB ds k) (Nat.le_refl _) (by omega)]; exact hd)
  obtain ⟨A', c', rfl, g1, g2, _⟩ := h7.at_.sl_inv
  refine ⟨g, A', c', T, e, h1, h3, g1, g2, h5, h7, fun w' ho hc => ?_⟩
  have := h8 w' _ ho hc
  unfold OwnMix
  rw [← mixd_set (length_marks markB ds k) (p := p) (d := .sl s' n' (Dt.marks markB ds' (k + Dt.cnts (ds.take p)))) (by rw [get_marks, hd]; rfl)]
  exact this
theorem own_shape' {w : World} {S : Nat → Prop} {s n : Nat} {ds : List Dt} {v : Value} (h : Own w S (.sl s n ds) v) : ∃ A c, v = .slice A n c ∧ n ≤ c ∧ c ≤ 9223372036854775807 ∧ ds.length = n * s := h.at_.sl_inv

/-- What a marking function does. -/
def MarksQ (fn : FuncId) (s n : Nat) (ds : List Dt) : Prop := ∀ (k : Nat) (W : World) (S : Nat → Prop) (v : Value), k + Dt.cnts ds ≤ 1099511627776 → Own W S (.sl s n ds) v →
  Calls Tryd.prog fn #[v, .int .i64 k] W fun r w' => r = .returned (.int .i64 ((k + Dt.cnts ds : Nat) : Int)) ∧ Own w' S (.sl s n (Dt.marks markB ds k)) v ∧ Chg S W w'

end Go.Proofs.YtghemlokpfipoaaDoor
