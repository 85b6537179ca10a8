/-
  Values: equality with origins is identity: plain words.
-/
import Derived.Test.YtghemlokpfipoaaYV4
namespace Go.Proofs.Ytghemlokpfipoaa
set_option linter.unusedVariables false
set_option linter.unusedSimpArgs false

theorem rowSame_self (f : Bool) (x : Rw) : rowSame f x x = true := by unfold rowSame; rw [sameL_self, sameL_self]; cases f <;> rfl
theorem vl_same_self (f : Bool) : ∀ d : Vl, Vl.same f d d = true := by
  refine Vl.ind fun k n s t l c r ih => ?_
  rw [same_mk]
  have h1 : allSame (Vl.same f) l l = true := allSame_all rfl fun j h1 h2 => ih _ (List.getElem_mem h1)
  have h2 : allSame (rowSame f) r r = true := allSame_all rfl fun j h1 h2 => rowSame_self f _
  simp [h1, h2, sameL_self]
theorem sameL_eq {α : Type} [DecidableEq α] {a b : List α} (h : sameL a b = true) : a = b := by unfold sameL at h; exact of_decide_eq_true h
theorem rowSame_eq {x y : Rw} (h : rowSame true x y = true) : x = y := by
  obtain ⟨a, b⟩ := x
  obtain ⟨c, d⟩ := y
  unfold rowSame at h
  simp only [Bool.not_true, Bool.false_or, Bool.and_eq_true] at h
  have h1 := sameL_eq h.1
  have h2 := sameL_eq h.2
  rw [h1, h2]
theorem allSame_eq {α : Type} {p : α → α → Bool} : ∀ {a b : List α}, (∀ x, x ∈ a → ∀ y, p x y = true → x = y) → allSame p a b = true → a = b
  | [], [], _, _ => rfl
  | [], _ :: _, _, h => by simp [allSame] at h
  | _ :: _, [], _, h => by simp [allSame] at h
  | x :: xs, y :: ys, hp, h => by
    rw [allSame, Bool.and_eq_true] at h
    rw [hp x List.mem_cons_self y h.1, allSame_eq (fun z hz => hp z (List.mem_cons_of_mem _ hz)) h.2]
theorem vl_same_eq : ∀ d d' : Vl, Vl.same true d d' = true → d = d' := by
  refine Vl.ind fun k n s t l c r ih d' h => ?_
  obtain ⟨k', n', s', t', l', c', r', rfl⟩ := Vl.shape d'
  rw [same_mk] at h
  simp only [Bool.and_eq_true, decide_eq_true_eq] at h
  obtain ⟨rfl, rfl, rfl, rfl, h1, h2, h3⟩ := h
  rw [allSame_eq ih h1, sameL_eq h2, allSame_eq (fun x _ y => rowSame_eq) h3]
theorem vl_same_symm (d d' : Vl) : Vl.same true d d' = Vl.same true d' d := by
  rw [Bool.eq_iff_iff]
  constructor <;> intro h
  · have := vl_same_eq _ _ h; subst this; exact h
  · have := vl_same_eq _ _ h; subst this; exact h
end Go.Proofs.Ytghemlokpfipoaa
