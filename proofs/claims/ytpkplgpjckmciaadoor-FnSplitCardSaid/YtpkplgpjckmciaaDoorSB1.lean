/-
  SplitByte: the plain law; the walk of the reference.
-/
import Derived.Test.YtpkplgpjckmciaaDoorD5
import Derived.Test.YtpkplgpjckmciaaDoorW1
import Derived.Lib.SplitLaws
import Derived.Lib.IndexBytes
namespace Go.Proofs.YtpkplgpjckmciaaDoor
open Go.ChangeShapes Go.WideShapes Go.ChangeAt Go.RowKit
set_option linter.unusedVariables false
set_option linter.unusedSimpArgs false
set_option maxRecDepth 100000

def consHead (b : UInt8) : List (List UInt8) → List (List UInt8)
  | [] => [[b]]
  | h :: t => (b :: h) :: t
/-- The parts of a text at a byte. -/
def sp (c : UInt8) : List UInt8 → List (List UInt8)
  | [] => [[]]
  | b :: t => if b = c then [] :: sp c t else consHead b (sp c t)
theorem sp_none {c : UInt8} : ∀ {l : List UInt8}, (∀ x ∈ l, x ≠ c) → sp c l = [l]
  | [], _ => rfl
  | b :: t, h => by
    rw [sp, if_neg (h b List.mem_cons_self), sp_none fun x hx => h x (List.mem_cons_of_mem _ hx)]
    rfl
theorem sp_hit {c : UInt8} (r : List UInt8) : ∀ {x : List UInt8}, (∀ y ∈ x, y ≠ c) → sp c (x ++ c :: r) = x :: sp c r
  | [], _ => by simp [sp]
  | b :: t, h => by
    rw [List.cons_append, sp, if_neg (h b List.mem_cons_self), sp_hit r fun x hx => h x (List.mem_cons_of_mem _ hx)]
    rfl
theorem index_ge (l : List UInt8) (c : UInt8) : -1 ≤ Lib.index l [c] := by rw [Lib.index_one]; exact Lib.indexByte_ge l c
theorem splitK_ne {b c : UInt8} (h : b ≠ c) (k : Nat) (t : List UInt8) : Lib.splitK [c] 0 k (b :: t) = consHead b (Lib.splitK [c] 0 k t) := by
  cases k with
  | zero => rfl
  | succ k =>
    have hge := index_ge t c
    have hi : Lib.index (b :: t) [c] = if Lib.index t [c] = -1 then -1 else Lib.index t [c] + 1 := by
      rw [Lib.index_one, Lib.index_one, Lib.indexByte]
      have : (b == c) = false := by simpa using h
      rw [this]
      simp
    unfold Lib.splitK
    by_cases hm : Lib.index t [c] = -1
    · rw [hi, hm]
      simp [consHead]
    · have e1 : (Lib.index t [c] == -1) = false := by simpa using hm
      have e2 : (Lib.index t [c] + 1 == -1) = false := by simp; omega
      rw [hi, if_neg hm, e1, e2]
      have e3 : (Lib.index t [c] + 1).toNat = (Lib.index t [c]).toNat + 1 := by omega
      simp only [e3, Bool.false_eq_true, if_false, consHead, Nat.add_zero, List.take_succ_cons, List.length_singleton, List.drop_succ_cons]
theorem splitK_sp (c : UInt8) : ∀ (l : List UInt8), Lib.splitK [c] 0 (l.count c) l = sp c l
  | [] => rfl
  | b :: t => by
    by_cases h : b = c
    · subst h
      have hi : Lib.index (b :: t) [b] = 0 := by rw [Lib.index_one, Lib.indexByte]; simp
      rw [List.count_cons_self, Lib.splitK, hi, sp, if_pos rfl]
      simp only [show ((0 : Int) == -1) = false from rfl, Bool.false_eq_true, if_false]
      rw [← splitK_sp b t]
      rfl
    · rw [List.count_cons_of_ne h, splitK_ne h, sp, if_neg h, splitK_sp c t]
def spB (c : UInt8) (s : ByteArray) : List ByteArray := (sp c s.data.toList).map fun l => ⟨l.toArray⟩
theorem bytes_of {out : List ByteArray} {c : UInt8} {s : ByteArray} (h : out.map (·.data.toList) = sp c s.data.toList) : out = spB c s := by
  unfold spB
  rw [← h, List.map_map]
  conv => lhs; rw [← List.map_id out]
  refine List.map_congr_left fun x _ => ?_
  simp
theorem splitB_sp (c : UInt8) (s : ByteArray) : Lib.splitB ⟨#[c]⟩ 0 (Lib.countB s ⟨#[c]⟩) s = spB c s := by
  apply bytes_of
  rw [Lib.splitB_data]
  have e : Lib.countB s ⟨#[c]⟩ = s.data.toList.count c := Lib.count_one c s.data.toList
  rw [e]
  exact splitK_sp c s.data.toList

theorem drop_none {c : UInt8} {L : List UInt8} {f : Nat} (h : ∀ j, f ≤ j → j < L.length → L[j]? ≠ some c) : sp c (L.drop f) = [L.drop f] := by
  refine sp_none fun x hx e => ?_
  obtain ⟨k, hk, hkx⟩ := List.getElem_of_mem hx
  rw [List.getElem_drop] at hkx
  rw [List.length_drop] at hk
  exact h (f + k) (by omega) (by omega) (by rw [List.getElem?_eq_getElem (by omega), hkx, e])
theorem drop_hit {c : UInt8} {L : List UInt8} {f i : Nat} (hfi : f ≤ i) (h : ∀ j, f ≤ j → j < i → L[j]? ≠ some c) (hi : L[i]? = some c) : sp c (L.drop f) = (L.drop f).take (i - f) :: sp c (L.drop (i + 1)) := by
  have hil : i < L.length := (List.getElem?_eq_some_iff.1 hi).1
  have e : L.drop f = (L.drop f).take (i - f) ++ c :: L.drop (i + 1) := by
    have h1 : (L.drop f).drop (i - f) = c :: L.drop (i + 1) := by
      rw [List.drop_drop, show f + (i - f) = i by omega, List.drop_eq_getElem_cons hil]
      have : L[i] = c := by rw [List.getElem?_eq_getElem hil] at hi; exact Option.some.inj hi
      rw [this]
    rw [← h1, List.take_append_drop]
  conv => lhs; rw [e]
  refine sp_hit _ fun y hy ey => ?_
  obtain ⟨k, hk, hky⟩ := List.getElem_of_mem hy
  rw [List.length_take, List.length_drop] at hk
  rw [List.getElem_take, List.getElem_drop] at hky
  exact h (f + k) (by omega) (by omega) (by rw [List.getElem?_eq_getElem (by omega), hky, ey])

def SplitInv (c : UInt8) (s : ByteArray) (out : List ByteArray) (f i : Nat) : Prop :=
  out.length ≤ i ∧ (∀ x ∈ out, x.size ≤ s.size) ∧ ((i ≤ s.size ∧ f ≤ i ∧ (∀ j, f ≤ j → j < i → s.data.toList[j]? ≠ some c) ∧ out.map (·.data.toList) ++ sp c (s.data.toList.drop f) = sp c s.data.toList) ∨ (i = s.size + 1 ∧ out = spB c s))
theorem SplitInv.step {c : UInt8} {s : ByteArray} {out : List ByteArray} {f i : Nat} (h : SplitInv c s out f i) (hi : i < s.size) (hne : s.data.toList[i]? ≠ some c) : SplitInv c s out f (i + 1) := by
  obtain ⟨h1, h2, ⟨h3, h4, h5, h6⟩ | ⟨h3, _⟩⟩ := h
  · exact ⟨by omega, h2, .inl ⟨by omega, by omega, fun j hj hj2 => if e : j = i then by subst e; exact hne else h5 j hj (by omega), h6⟩⟩
  · omega
theorem SplitInv.hit {c : UInt8} {s : ByteArray} {out : List ByteArray} {f i : Nat} (h : SplitInv c s out f i) (hi : i < s.size) (he : s.data.toList[i]? = some c) : f ≤ i ∧ SplitInv c s (out ++ [s.extract f i]) (i + 1) (i + 1) := by
  obtain ⟨h1, h2, ⟨h3, h4, h5, h6⟩ | ⟨h3, _⟩⟩ := h
  · refine ⟨h4, by rw [List.length_append]; simp; omega, fun x hx => ?_, .inl ⟨by omega, by omega, fun j hj hj2 => by omega, ?_⟩⟩
    · rcases List.mem_append.1 hx with hx | hx
      · exact h2 x hx
      · rw [List.mem_singleton.1 hx, ByteArray.size_extract]; omega
    · rw [List.map_append, List.append_assoc, ← h6, drop_hit h4 h5 he]
      congr 1
      simp [Lib.extract_data]
  · omega
theorem SplitInv.last {c : UInt8} {s : ByteArray} {out : List ByteArray} {f : Nat} (h : SplitInv c s out f s.size) : f ≤ s.size ∧ SplitInv c s (out ++ [s.extract f s.size]) (s.size + 1) (s.size + 1) := by
  obtain ⟨h1, h2, ⟨h3, h4, h5, h6⟩ | ⟨h3, _⟩⟩ := h
  · have hlen : s.data.toList.length = s.size := by simp
    refine ⟨h4, by rw [List.length_append]; simp; omega, fun x hx => ?_, .inr ⟨rfl, bytes_of ?_⟩⟩
    · rcases List.mem_append.1 hx with hx | hx
      · exact h2 x hx
      · rw [List.mem_singleton.1 hx, ByteArray.size_extract]; omega
    · rw [List.map_append, ← h6, drop_none fun j hj hj2 => h5 j hj (by omega)]
      congr 1
      rw [List.map_singleton, Lib.extract_to_end]
  · omega
end Go.Proofs.YtpkplgpjckmciaaDoor
