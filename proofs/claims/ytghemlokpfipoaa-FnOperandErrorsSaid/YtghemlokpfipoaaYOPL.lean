/-
  Operators: what they answer where no operand is an error: plain words; the answer holds; adding, multiplying and comparing numbers the other way round.
-/
import Derived.Test.YtghemlokpfipoaaYSU1
import Derived.Test.YtghemlokpfipoaaYDP
import Derived.Test.YtghemlokpfipoaaYVL
namespace Go.Proofs.Ytghemlokpfipoaa
set_option linter.unusedVariables false
set_option linter.unusedSimpArgs false

def chkD (n : Int) : Vl := leafD (if numV n = true then 1 else 6) (if numV n = true then n else 5) 0 ⟨#[]⟩
def truthD (b : Bool) : Vl := leafD 1 (if b then 1 else 0) 0 ⟨#[]⟩
def errD (n : Int) : Vl := leafD 6 n 0 ⟨#[]⟩
def addL (d d' : Vl) : Vl := if d.list.length + d'.list.length ≤ 8 then listD (d.list ++ d'.list) else errD 6
def addT (d d' : Vl) : Vl := if d.text.size + d'.text.size ≤ 20 then leafD 2 0 0 (d.text ++ d'.text) else errD 6
def addD (d d' : Vl) : Vl := if d.kind = 1 ∧ d'.kind = 1 then chkD (d.n + d'.n) else if d.kind = 2 ∧ d'.kind = 2 then addT d d' else if d.kind = 3 ∧ d'.kind = 3 then addL d d' else errD 4
/-- Is a text before another? -/
def textLt (s t : ByteArray) : Bool := Op.bytesLess s.toList t.toList
def lessD (d d' : Vl) : Vl := if d.kind = 1 ∧ d'.kind = 1 then truthD (decide (d.n < d'.n)) else if d.kind = 2 ∧ d'.kind = 2 then truthD (textLt d.text d'.text) else errD 4
/-- What an operator answers where no operand is an error. -/
def applyN (op : Int) (d d' : Vl) : Vl :=
  if op = 1 then addD d d' else if op = 4 then lessD d d' else if op = 5 then truthD (Vl.same false d d')
  else if op = 2 ∧ d.kind = 1 ∧ d'.kind = 1 then chkD (d.n - d'.n) else if op = 3 ∧ d.kind = 1 ∧ d'.kind = 1 then chkD (d.n * d'.n) else errD 4
def applyD (op : Int) (d d' : Vl) : Vl := match firstE [d, d'] with | some m => errD m | none => applyN op d d'

theorem empty_list : (⟨#[]⟩ : ByteArray).toList = [] := by rw [ByteArray.toList_eq]
theorem valid_errD {n : Int} (h1 : 1 ≤ n) (h2 : n ≤ 8) : (errD n).valid = true := by
  unfold errD leafD
  rw [Vl.valid]
  simp [empty_list, h1, h2]
theorem valid_chkD (n : Int) : (chkD n).valid = true := by
  unfold chkD
  cases h : numV n with
  | true =>
    simp only [if_true]
    unfold leafD
    rw [Vl.valid]
    simp [empty_list, h]
  | false =>
    simp only [Bool.false_eq_true, if_false]
    exact valid_errD (by omega) (by omega)
theorem valid_truthD (b : Bool) : (truthD b).valid = true := by
  unfold truthD leafD
  rw [Vl.valid]
  cases b <;> simp [empty_list, numV]
theorem valids_app (a b : List Vl) : Vl.valids (a ++ b) = (Vl.valids a && Vl.valids b) := by rw [valids_eq, valids_eq, valids_eq, List.all_append]
theorem validText_app {s t : ByteArray} (h1 : validText s = true) (h2 : validText t = true) (h : s.size + t.size ≤ 20) : validText (s ++ t) = true := by
  unfold validText at *
  simp only [Bool.and_eq_true, decide_eq_true_eq] at *
  refine ⟨?_, by rw [ByteArray.size_append]; exact h⟩
  rw [ByteArray.data_append, Array.toList_append, List.all_append, h1.1, h2.1]
  rfl
theorem valid_kind2 {d : Vl} (hv : d.valid = true) (hk : d.kind = 2) : validText d.text = true := by
  obtain ⟨k, n, s, t, l, c, r, rfl⟩ := Vl.shape d
  simp only [Vl.kind] at hk
  subst hk
  rw [Vl.valid] at hv
  simp only [show ¬ (2 : Int) = 1 by decide, if_false, if_true, Bool.and_eq_true] at hv
  exact hv.2.2.2
theorem valid_kind3 {d : Vl} (hv : d.valid = true) (hk : d.kind = 3) : Vl.valids d.list = true ∧ d.list.length ≤ 8 ∧ Vl.depths d.list ≤ 2 := by
  obtain ⟨k, n, s, t, l, c, r, rfl⟩ := Vl.shape d
  simp only [Vl.kind] at hk
  subst hk
  rw [Vl.valid] at hv
  simp only [show ¬ (3 : Int) = 1 by decide, show ¬ (3 : Int) = 2 by decide, show ¬ (3 : Int) = 4 by decide, show ¬ (3 : Int) = 6 by decide, show ¬ (3 : Int) = 5 by decide, if_false, if_true, Bool.and_eq_true, decide_eq_true_eq] at hv
  exact hv.2
theorem valid_listD {l : List Vl} (h1 : Vl.valids l = true) (h2 : l.length ≤ 8) (h3 : Vl.depths l ≤ 2) : (listD l).valid = true := by
  unfold listD
  rw [Vl.valid]
  simp [empty_list, h1, h2, h3]
theorem valid_addL {d d' : Vl} (h1 : d.valid = true) (h2 : d'.valid = true) (k1 : d.kind = 3) (k2 : d'.kind = 3) : (addL d d').valid = true := by
  unfold addL
  split
  · obtain ⟨a1, a2, a3⟩ := valid_kind3 h1 k1
    obtain ⟨b1, b2, b3⟩ := valid_kind3 h2 k2
    refine valid_listD (by rw [valids_app, a1, b1]; rfl) (by rw [List.length_append]; assumption) (by rw [vdepths_append]; omega)
  · exact valid_errD (by omega) (by omega)
theorem valid_addT {d d' : Vl} (h1 : d.valid = true) (h2 : d'.valid = true) (k1 : d.kind = 2) (k2 : d'.kind = 2) : (addT d d').valid = true := by
  unfold addT
  split
  · have := validText_app (valid_kind2 h1 k1) (valid_kind2 h2 k2) (by assumption)
    unfold leafD
    rw [Vl.valid]
    simp [this]
  · exact valid_errD (by omega) (by omega)
theorem valid_applyN (op : Int) {d d' : Vl} (h1 : d.valid = true) (h2 : d'.valid = true) : (applyN op d d').valid = true := by
  unfold applyN addD lessD
  repeat' split
  all_goals first
    | exact valid_chkD _
    | exact valid_truthD _
    | exact valid_errD (by omega) (by omega)
    | (rename_i h; exact valid_addT h1 h2 h.1 h.2)
    | (rename_i h; exact valid_addL h1 h2 h.1 h.2)
theorem first_two_none {d d' : Vl} (h : firstE [d, d'] = none) : errOf d = none ∧ errOf d' = none := by
  rw [first_two] at h
  cases he : errOf d with
  | some n => rw [he] at h; cases h
  | none => rw [he] at h; exact ⟨rfl, h⟩
theorem err_range {d : Vl} {n : Int} (h : errOf d = some n) : 1 ≤ n ∧ n ≤ 8 := by
  unfold errOf at h
  split at h
  · split at h
    · rename_i hv hk
      cases h
      have := valid_err hv hk
      rw [this] at hv
      unfold leafD at hv
      rw [Vl.valid] at hv
      simp at hv
      exact ⟨hv.1, hv.2⟩
    · cases h
  · cases h; omega
theorem first_range {d d' : Vl} {n : Int} (h : firstE [d, d'] = some n) : 1 ≤ n ∧ n ≤ 8 := by
  rw [first_two] at h
  cases he : errOf d with
  | some m => rw [he] at h; cases h; exact err_range he
  | none => rw [he] at h; exact err_range h
theorem valid_applyD (op : Int) (d d' : Vl) : (applyD op d d').valid = true := by
  unfold applyD
  cases h : firstE [d, d'] with
  | some m => exact valid_errD (first_range h).1 (first_range h).2
  | none =>
    obtain ⟨h1, h2⟩ := first_two_none h
    exact valid_applyN op (errOf_none h1).1 (errOf_none h2).1
end Go.Proofs.Ytghemlokpfipoaa
