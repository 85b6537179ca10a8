/-
  Names sorted: each once, in the order of their bytes (plain words).
-/
import Derived.Test.YthjabeoafdohjaaPlain
import Derived.Sort.OwnSorted
namespace Go.Proofs.Ythjabeoafdohjaa
open Go.RowKit
set_option linter.unusedVariables false
set_option linter.unusedSimpArgs false

theorem hasB_mem (xs : List ByteArray) (s : ByteArray) : hasB xs s = true ↔ s ∈ xs := by
  simp only [hasB, List.any_eq_true]
  constructor
  · rintro ⟨x, hx, he⟩
    rw [beq_toList] at he
    have : x = s := by simpa using he
    exact this ▸ hx
  · intro h
    exact ⟨s, h, by simp⟩

def keyB (x : ByteArray) : List UInt8 := x.data.toList
def ofK (l : List UInt8) : ByteArray := ⟨l.toArray⟩
theorem ofK_key (x : ByteArray) : ofK (keyB x) = x := by simp [ofK, keyB]
theorem key_ofK (l : List UInt8) : keyB (ofK l) = l := by simp [ofK, keyB]
theorem key_inj {x y : ByteArray} (h : keyB x = keyB y) : x = y := by rw [← ofK_key x, h, ofK_key]
theorem toList_key (x : ByteArray) : x.toList = keyB x := by rw [ByteArray.toList_eq]; rfl

/-- Each string once, in the order of its first place. -/
def firstsB (xs : List ByteArray) : List ByteArray := xs.foldl (fun a x => if hasB a x = true then a else a ++ [x]) []
theorem mem_firsts_acc (s : ByteArray) : ∀ (xs a : List ByteArray), s ∈ xs.foldl (fun a x => if hasB a x = true then a else a ++ [x]) a ↔ s ∈ a ∨ s ∈ xs := by
  intro xs
  induction xs with
  | nil => intro a; simp
  | cons x xs ih =>
    intro a
    rw [List.foldl_cons, ih]
    by_cases h : hasB a x = true
    · rw [if_pos h]
      have hm := (hasB_mem a x).1 h
      constructor
      · rintro (h | h)
        · exact .inl h
        · exact .inr (List.mem_cons_of_mem _ h)
      · rintro (h | h)
        · exact .inl h
        · rcases List.mem_cons.1 h with rfl | h
          · exact .inl hm
          · exact .inr h
    · rw [if_neg h]
      simp only [List.mem_append, List.mem_cons, List.not_mem_nil, or_false, or_assoc]
theorem nodup_firsts_acc : ∀ (xs a : List ByteArray), a.Nodup → (xs.foldl (fun a x => if hasB a x = true then a else a ++ [x]) a).Nodup := by
  intro xs
  induction xs with
  | nil => intro a h; exact h
  | cons x xs ih =>
    intro a ha
    rw [List.foldl_cons]
    refine ih _ ?_
    by_cases h : hasB a x = true
    · rw [if_pos h]; exact ha
    · rw [if_neg h]
      have hn : x ∉ a := fun hm => h ((hasB_mem a x).2 hm)
      rw [List.nodup_append]
      refine ⟨ha, by simp, fun y hy z hz e => ?_⟩
      rw [List.mem_singleton] at hz
      subst hz
      subst e
      exact hn hy
theorem mem_firsts (xs : List ByteArray) (s : ByteArray) : s ∈ firstsB xs ↔ s ∈ xs := by unfold firstsB; rw [mem_firsts_acc]; simp
theorem nodup_firsts (xs : List ByteArray) : (firstsB xs).Nodup := nodup_firsts_acc xs [] List.nodup_nil
theorem has_firsts (xs : List ByteArray) (s : ByteArray) : hasB (firstsB xs) s = hasB xs s := by
  rw [Bool.eq_iff_iff, hasB_mem, hasB_mem, mem_firsts]
theorem firsts_snoc (xs : List ByteArray) (x : ByteArray) : firstsB (xs ++ [x]) = if hasB xs x = true then firstsB xs else firstsB xs ++ [x] := by
  rw [← has_firsts]
  unfold firstsB
  rw [List.foldl_append, List.foldl_cons, List.foldl_nil]
theorem firsts_hit {xs : List ByteArray} {k : Nat} (hk : k < xs.length) (h : hasB (xs.take k) xs[k] = true) : firstsB (xs.take (k + 1)) = firstsB (xs.take k) := by
  rw [List.take_succ_eq_append_getElem hk, firsts_snoc, if_pos h]
theorem firsts_new {xs : List ByteArray} {k : Nat} (hk : k < xs.length) (h : hasB (xs.take k) xs[k] = false) : firstsB (xs.take (k + 1)) = firstsB (xs.take k) ++ [xs[k]] := by
  rw [List.take_succ_eq_append_getElem hk, firsts_snoc, if_neg (by rw [h]; simp)]
theorem firsts_le_acc : ∀ (xs a : List ByteArray), (xs.foldl (fun a x => if hasB a x = true then a else a ++ [x]) a).length ≤ a.length + xs.length := by
  intro xs
  induction xs with
  | nil => intro a; simp
  | cons x xs ih =>
    intro a
    rw [List.foldl_cons]
    refine Nat.le_trans (ih _) ?_
    by_cases h : hasB a x = true
    · rw [if_pos h]; simp only [List.length_cons]; omega
    · rw [if_neg h]; simp only [List.length_append, List.length_cons, List.length_nil]; omega
theorem firsts_le (xs : List ByteArray) : (firstsB xs).length ≤ xs.length := by have := firsts_le_acc xs []; simpa [firstsB] using this

/-- The strings, each once, in the order of their bytes. -/
def sortedK (xs : List ByteArray) : List (List UInt8) := ((firstsB xs).map keyB).mergeSort fun x y => decide (x ≤ y)
def sortB (xs : List ByteArray) : List ByteArray := (sortedK xs).map ofK
theorem sort_row (xs : List ByteArray) : (sortB xs).map Value.string = (sortedK xs).map encStr := by
  unfold sortB
  rw [List.map_map]
  rfl
theorem firsts_row (xs : List ByteArray) : xs.map Value.string = (xs.map keyB).map encStr := by
  rw [List.map_map]
  apply List.map_congr_left
  intro x _
  show Value.string x = Value.string (ofK (keyB x))
  rw [ofK_key]
theorem length_sortB (xs : List ByteArray) : (sortB xs).length = (firstsB xs).length := by
  unfold sortB sortedK
  rw [List.length_map, List.length_mergeSort, List.length_map]
theorem mem_sortB (xs : List ByteArray) (s : ByteArray) : s ∈ sortB xs ↔ s ∈ xs := by
  unfold sortB sortedK
  rw [List.mem_map]
  constructor
  · rintro ⟨l, hl, rfl⟩
    rw [List.mem_mergeSort, List.mem_map] at hl
    obtain ⟨x, hx, rfl⟩ := hl
    rw [ofK_key]
    exact (mem_firsts xs x).1 hx
  · intro h
    refine ⟨keyB s, ?_, ofK_key s⟩
    rw [List.mem_mergeSort, List.mem_map]
    exact ⟨s, (mem_firsts xs s).2 h, rfl⟩
/-- Strictly ascending. -/
def Rising (xs : List ByteArray) : Prop := xs.Pairwise fun x y => keyB x < keyB y
theorem rising_sortB (xs : List ByteArray) : Rising (sortB xs) := by
  have tr : ∀ a b c : List UInt8, decide (a ≤ b) = true → decide (b ≤ c) = true → decide (a ≤ c) = true := fun a b c h1 h2 => by simp only [decide_eq_true_eq] at *; exact List.le_trans h1 h2
  have to : ∀ a b : List UInt8, (decide (a ≤ b) || decide (b ≤ a)) = true := fun a b => by simp only [Bool.or_eq_true, decide_eq_true_eq]; exact List.le_total a b
  have h1 : (sortedK xs).Pairwise fun a b => decide (a ≤ b) = true := List.pairwise_mergeSort tr to _
  have h2 : (sortedK xs).Nodup := by
    unfold sortedK
    refine (List.mergeSort_perm _ _).nodup_iff.2 ?_
    refine List.pairwise_map.2 ((nodup_firsts xs).imp fun {a b} hne e => hne (key_inj e))
  unfold Rising sortB
  rw [List.pairwise_map]
  refine (List.Pairwise.and h1 h2).imp fun {a b} h => ?_
  obtain ⟨h3, h4⟩ := h
  simp only [decide_eq_true_eq] at h3
  rw [key_ofK, key_ofK]
  rcases Classical.em (a < b) with h | h
  · exact h
  · exact absurd (List.le_antisymm h3 (List.not_lt.1 h)) h4
/-- Two ascending lists of the same elements are one. -/
theorem rising_unique : ∀ {xs ys : List ByteArray}, Rising xs → Rising ys → (∀ s, s ∈ xs ↔ s ∈ ys) → xs = ys := by
  intro xs ys hx hy hm
  have nd : ∀ {l : List ByteArray}, Rising l → l.Nodup := fun {l} h => h.imp fun {a b} hl e => by
    subst e
    exact List.lt_irrefl _ hl
  have hp : xs.Perm ys := (List.perm_ext_iff_of_nodup (nd hx) (nd hy)).2 hm
  refine List.Perm.eq_of_pairwise (le := fun a b => keyB a < keyB b) (fun a b _ _ h1 h2 => ?_) hx hy hp
  exact absurd (List.lt_trans h1 h2) (List.lt_irrefl _)
theorem sortB_again (xs : List ByteArray) : sortB (sortB xs) = sortB xs :=
  rising_unique (rising_sortB _) (rising_sortB _) fun s => mem_sortB _ s
theorem rising_distinct {xs : List ByteArray} (h : Rising xs) : distinctB xs = true := by
  unfold distinctB
  rw [decide_eq_true_eq]
  intro i hi
  cases hq : hasB (xs.take i) xs[i] with
  | false => rfl
  | true =>
    rw [hasB_mem] at hq
    obtain ⟨j, hj, he⟩ := List.getElem_of_mem hq
    rw [List.length_take] at hj
    rw [List.getElem_take] at he
    have := List.pairwise_iff_getElem.1 h j i (by omega) hi (by omega)
    rw [he] at this
    exact absurd this (List.lt_irrefl _)
theorem less_lt : ∀ (x y : List UInt8), Op.bytesLess x y = decide (x < y)
  | [], [] => by simp [Op.bytesLess]
  | _ :: _, [] => by simp [Op.bytesLess]
  | [], _ :: _ => by simp [Op.bytesLess]
  | a :: x, b :: y => by
    rw [Op.bytesLess, less_lt x y]
    simp only [List.cons_lt_cons_iff]
    by_cases h1 : a < b <;> by_cases h2 : a = b <;> by_cases h3 : x < y <;> simp [h1, h2, h3]
theorem rising_step {xs : List ByteArray} (h : Rising xs) {i : Nat} (hi : i + 1 < xs.length) : Op.bytesLess xs[i].toList xs[i + 1].toList = true := by
  rw [less_lt, toList_key, toList_key, decide_eq_true_eq]
  exact List.pairwise_iff_getElem.1 h i (i + 1) (by omega) hi (by omega)
theorem index_mem {xs : List ByteArray} {s : ByteArray} (h : s ∈ xs) : 0 ≤ indexB xs s := by
  have := has_index xs s
  rw [(hasB_mem xs s).2 h] at this
  simpa using this.symm
end Go.Proofs.Ythjabeoafdohjaa
