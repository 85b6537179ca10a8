/-
  Origins sorted, each once: insertion into an ascending list; a list of distinct origins, sorted (plain words).
-/
import Derived.Test.YtjjmbldgemnhbaaYD2
namespace Go.Proofs.Ytjjmbldgemnhbaa
open Go.RowKit
set_option linter.unusedVariables false
set_option linter.unusedSimpArgs false

/-- The order of origins. -/
def ltO (a b : Org) : Bool := decide (a.1 < b.1) || (decide (a.1 = b.1) && decide (a.2 < b.2))
theorem ltO_iff {a b : Org} : ltO a b = true ↔ a.1 < b.1 ∨ (a.1 = b.1 ∧ a.2 < b.2) := by simp [ltO]
theorem ltO_irrefl (a : Org) : ltO a a = false := by simp [ltO]
theorem ltO_trans {a b c : Org} (h : ltO a b = true) (k : ltO b c = true) : ltO a c = true := by
  rw [ltO_iff] at *
  omega
theorem ltO_total {a b : Org} (h : ltO a b = false) (hne : a ≠ b) : ltO b a = true := by
  rw [ltO_iff]
  have h' : ¬ (a.1 < b.1 ∨ (a.1 = b.1 ∧ a.2 < b.2)) := fun e => by rw [ltO_iff.2 e] at h; cases h
  have : ¬ (a.1 = b.1 ∧ a.2 = b.2) := fun e => hne (Prod.ext e.1 e.2)
  omega
/-- Strictly ascending. -/
def RisingO (l : List Org) : Prop := l.Pairwise fun a b => ltO a b = true
/-- An origin in its place, once. -/
def putO (o : Org) : List Org → List Org
  | [] => [o]
  | x :: l => if x = o then x :: l else if ltO o x = true then o :: x :: l else x :: putO o l
theorem mem_putO {o s : Org} : ∀ {l : List Org}, s ∈ putO o l ↔ s = o ∨ s ∈ l
  | [] => by simp [putO]
  | x :: l => by
    rw [putO]
    split
    · next h => subst h; simp
    · split
      · simp
      · rw [List.mem_cons, mem_putO, List.mem_cons]
        constructor
        · rintro (h | h | h)
          · exact .inr (.inl h)
          · exact .inl h
          · exact .inr (.inr h)
        · rintro (h | h | h)
          · exact .inr (.inl h)
          · exact .inl h
          · exact .inr (.inr h)
theorem rising_putO {o : Org} : ∀ {l : List Org}, RisingO l → RisingO (putO o l)
  | [], _ => by simp [putO, RisingO]
  | x :: l, h => by
    have h2 := List.pairwise_cons.1 h
    rw [putO]
    split
    · exact h
    · next hne =>
      split
      · next hlt =>
        refine List.pairwise_cons.2 ⟨fun y hy => ?_, h⟩
        rcases List.mem_cons.1 hy with rfl | hy
        · exact hlt
        · exact ltO_trans hlt (h2.1 y hy)
      · next hnl =>
        refine List.pairwise_cons.2 ⟨fun y hy => ?_, rising_putO h2.2⟩
        rcases mem_putO.1 hy with rfl | hy
        · exact ltO_total (by simpa using hnl) (fun e => hne e.symm)
        · exact h2.1 y hy
theorem length_putO (o : Org) : ∀ l : List Org, (putO o l).length ≤ l.length + 1
  | [] => by simp [putO]
  | x :: l => by
    have := length_putO o l
    rw [putO]
    split
    · simp
    · split
      · simp
      · simp only [List.length_cons]; omega
def putsO (l xs : List Org) : List Org := xs.foldl (fun a o => putO o a) l
theorem mem_putsO {s : Org} : ∀ {xs l : List Org}, s ∈ putsO l xs ↔ s ∈ l ∨ s ∈ xs
  | [], l => by simp [putsO]
  | x :: xs, l => by
    unfold putsO
    rw [List.foldl_cons]
    have := mem_putsO (s := s) (xs := xs) (l := putO x l)
    unfold putsO at this
    rw [this, mem_putO, List.mem_cons]
    constructor
    · rintro ((h | h) | h)
      · exact .inr (.inl h)
      · exact .inl h
      · exact .inr (.inr h)
    · rintro (h | h | h)
      · exact .inl (.inr h)
      · exact .inl (.inl h)
      · exact .inr h
theorem rising_putsO : ∀ {xs l : List Org}, RisingO l → RisingO (putsO l xs)
  | [], _, h => h
  | x :: xs, l, h => rising_putsO (xs := xs) (rising_putO h)
theorem length_putsO : ∀ (xs l : List Org), (putsO l xs).length ≤ l.length + xs.length
  | [], l => by simp [putsO]
  | x :: xs, l => by
    have h1 := length_putsO xs (putO x l)
    have h2 := length_putO x l
    unfold putsO at h1 ⊢
    rw [List.foldl_cons, List.length_cons]
    omega
theorem putsO_snoc (l xs : List Org) (x : Org) : putsO l (xs ++ [x]) = putO x (putsO l xs) := by unfold putsO; rw [List.foldl_append]; rfl
theorem putsO_append (l xs ys : List Org) : putsO l (xs ++ ys) = putsO (putsO l xs) ys := by unfold putsO; rw [List.foldl_append]
/-- All origins of two lists, each once, in their order. -/
def unionO (a b : List Org) : List Org := putsO (putsO [] a) b
theorem rising_unionO (a b : List Org) : RisingO (unionO a b) := rising_putsO (rising_putsO List.Pairwise.nil)
theorem mem_unionO {a b : List Org} {s : Org} : s ∈ unionO a b ↔ s ∈ a ∨ s ∈ b := by unfold unionO; rw [mem_putsO, mem_putsO]; simp
theorem length_unionO (a b : List Org) : (unionO a b).length ≤ a.length + b.length := by
  have h1 := length_putsO b (putsO [] a)
  have h2 := length_putsO a []
  unfold unionO
  simp at h2
  omega
theorem nodup_rising {l : List Org} (h : RisingO l) : l.Nodup := h.imp fun {a b} hl e => by subst e; rw [ltO_irrefl] at hl; cases hl
theorem risingO_unique {xs ys : List Org} (hx : RisingO xs) (hy : RisingO ys) (hm : ∀ s, s ∈ xs ↔ s ∈ ys) : xs = ys := by
  have hp : xs.Perm ys := (List.perm_ext_iff_of_nodup (nodup_rising hx) (nodup_rising hy)).2 hm
  refine List.Perm.eq_of_pairwise (le := fun a b => ltO a b = true) (fun a b _ _ h1 h2 => ?_) hx hy hp
  have := ltO_trans h1 h2
  rw [ltO_irrefl] at this
  cases this
/-- Each origin once, in the order of its first place. -/
def firstsO (xs : List Org) : List Org := xs.foldl (fun a x => if x ∈ a then a else a ++ [x]) []
theorem mem_firstsO_acc (s : Org) : ∀ (xs a : List Org), s ∈ xs.foldl (fun a x => if x ∈ a then a else a ++ [x]) a ↔ s ∈ a ∨ s ∈ xs := by
  intro xs
  induction xs with
  | nil => intro a; simp
  | cons x xs ih =>
    intro a
    rw [List.foldl_cons, ih]
    by_cases h : x ∈ a
    · rw [if_pos h, List.mem_cons]
      constructor
      · rintro (h1 | h1)
        · exact .inl h1
        · exact .inr (.inr h1)
      · rintro (h1 | rfl | h1)
        · exact .inl h1
        · exact .inl h
        · exact .inr h1
    · rw [if_neg h]
      simp only [List.mem_append, List.mem_cons, List.not_mem_nil, or_false, or_assoc]
theorem nodup_firstsO_acc : ∀ (xs a : List Org), a.Nodup → (xs.foldl (fun a x => if x ∈ a then a else a ++ [x]) a).Nodup := by
  intro xs
  induction xs with
  | nil => intro a h; exact h
  | cons x xs ih =>
    intro a ha
    rw [List.foldl_cons]
    refine ih _ ?_
    by_cases h : x ∈ a
    · rw [if_pos h]; exact ha
    · rw [if_neg h, List.nodup_append]
      refine ⟨ha, by simp, fun y hy z hz e => ?_⟩
      rw [List.mem_singleton] at hz
      subst hz
      subst e
      exact h hy
theorem mem_firstsO (xs : List Org) (s : Org) : s ∈ firstsO xs ↔ s ∈ xs := by unfold firstsO; rw [mem_firstsO_acc]; simp
theorem nodup_firstsO (xs : List Org) : (firstsO xs).Nodup := nodup_firstsO_acc xs [] List.nodup_nil
theorem firstsO_snoc (xs : List Org) (x : Org) : firstsO (xs ++ [x]) = if x ∈ xs then firstsO xs else firstsO xs ++ [x] := by
  have : (if x ∈ xs then firstsO xs else firstsO xs ++ [x]) = (if x ∈ firstsO xs then firstsO xs else firstsO xs ++ [x]) := by simp only [mem_firstsO]
  rw [this]
  unfold firstsO
  rw [List.foldl_append, List.foldl_cons, List.foldl_nil]
theorem firstsO_hit {xs : List Org} {k : Nat} (hk : k < xs.length) (h : xs[k] ∈ xs.take k) : firstsO (xs.take (k + 1)) = firstsO (xs.take k) := by
  rw [List.take_succ_eq_append_getElem hk, firstsO_snoc, if_pos h]
theorem firstsO_new {xs : List Org} {k : Nat} (hk : k < xs.length) (h : xs[k] ∉ xs.take k) : firstsO (xs.take (k + 1)) = firstsO (xs.take k) ++ [xs[k]] := by
  rw [List.take_succ_eq_append_getElem hk, firstsO_snoc, if_neg h]
theorem firstsO_le_acc : ∀ (xs a : List Org), (xs.foldl (fun a x => if x ∈ a then a else a ++ [x]) a).length ≤ a.length + xs.length := by
  intro xs
  induction xs with
  | nil => intro a; simp
  | cons x xs ih =>
    intro a
    rw [List.foldl_cons]
    refine Nat.le_trans (ih _) ?_
    by_cases h : x ∈ a
    · rw [if_pos h]; simp only [List.length_cons]; omega
    · rw [if_neg h]; simp only [List.length_append, List.length_cons, List.length_nil]; omega
theorem firstsO_le (xs : List Org) : (firstsO xs).length ≤ xs.length := by have := firstsO_le_acc xs []; simpa [firstsO] using this
/-- A permutation of the distinct origins in which none stands behind a greater one is the union. -/
theorem sorted_unionO {a b out : List Org} (hp : out.Perm (firstsO (a ++ b))) (hs : out.Pairwise fun x y => ltO y x = false) : out = unionO a b := by
  have hn : out.Nodup := hp.nodup_iff.2 (nodup_firstsO _)
  have hr : RisingO out := (List.Pairwise.and hs hn).imp fun {x y} h => ltO_total h.1 (fun e => h.2 e.symm)
  refine risingO_unique hr (rising_unionO a b) fun s => ?_
  rw [hp.mem_iff, mem_firstsO, mem_unionO, List.mem_append]
end Go.Proofs.Ytjjmbldgemnhbaa
