/-
  Values: szValue; copies: toIntS, toOrigin, toOriginS, toRow, toRowS, toValue, toValueS.
-/
import Derived.Test.YtjjmbldgemnhbaaDoorD3
import Derived.Handy
namespace Go.Proofs.YtjjmbldgemnhbaaDoor
open Go.ChangeShapes Go.WideShapes Go.ChangeAt Go.RowKit
set_option linter.unusedVariables false
set_option linter.unusedSimpArgs false

def Filling {α : Type} (W wr : World) (e s : Nat) (enc : α → List Dt) (l : List α) (j : Nat) : Prop :=
  ∃ (xs : List Value) (G : Nat → List Value) (B : Nat → Nat), wr.ownsRow W.heap.size e s (.slice (some ⟨W.heap.size, 0, none⟩) l.length l.length) l.length xs ∧ Filled s xs G j ∧ W.heap.size < B 0 ∧ (∀ i, B i ≤ B (i + 1)) ∧ (∀ i, j ≤ i → B i = B j) ∧ B j ≤ wr.heap.size ∧
    (∀ i (hi : i < l.length), i < j → Owns wr (fun b => B i ≤ b ∧ b < B (i + 1)) (enc l[i]) (G i)) ∧ Later W wr
theorem Filling.later_ {α : Type} {W wr : World} {e s : Nat} {enc : α → List Dt} {l : List α} {j : Nat} (h : Filling W wr e s enc l j) : Later W wr := by
  obtain ⟨xs, G, B, h1, h2, h3, h4, h5, h6, h7, h8⟩ := h
  exact h8
theorem Filling.start {α : Type} {W w1 : World} {e s : Nat} {enc : α → List Dt} {l : List α} {xs : List Value} (h : w1.ownsRow W.heap.size e s (.slice (some ⟨W.heap.size, 0, none⟩) l.length l.length) l.length xs) (hl : Later W w1) (hs : W.heap.size < w1.heap.size) : Filling W w1 e s enc l 0 :=
  ⟨xs, fun _ => [], fun _ => w1.heap.size, h, fun i hi => absurd hi (by omega), hs, fun _ => Nat.le_refl _, fun _ _ => rfl, Nat.le_refl _, fun i _ hi => absurd hi (by omega), hl⟩
theorem Filling.cell {α : Type} {W wr : World} {e s : Nat} {enc : α → List Dt} {l : List α} {j p : Nat} (h : Filling W wr e s enc l j) (hp : p < l.length * s) : ∃ u, wr.cell? ⟨W.heap.size, p, none⟩ = some u ∧ wr.frozen? ⟨W.heap.size, p, none⟩ = false := by
  obtain ⟨xs, G, B, h1, _⟩ := h
  exact own_cell h1 hp
theorem mono_le {B : Nat → Nat} (h : ∀ i, B i ≤ B (i + 1)) : ∀ {i j}, i ≤ j → B i ≤ B j := by
  intro i j hij
  induction hij with
  | refl => exact Nat.le_refl _
  | step _ ih => exact Nat.le_trans ih (h _)
theorem Filling.step {α : Type} {W wr w2 : World} {e s : Nat} {enc : α → List Dt} {l : List α} {j : Nat} (h : Filling W wr e s enc l j) (hj : j < l.length) (hb : Later wr w2) {vs : List Value} (hv : vs.length = s)
    (ho : Owns w2 (fun b => wr.heap.size ≤ b ∧ b < w2.heap.size) (enc l[j]) vs) : Filling W (setFrom w2 W.heap.size (j * s) vs) e s enc l (j + 1) := by
  obtain ⟨xs, G, B, h1, h2, h3, h4, h5, h6, h7, h8⟩ := h
  have g1 := own_later h1 hb
  have hW := (h1.lt W.heap.size rfl).2
  have hsz := hb.size
  have hB0 : ∀ i, W.heap.size < B i := fun i => Nat.lt_of_lt_of_le h3 (mono_le h4 (Nat.zero_le i))
  refine ⟨writeAt xs (j * s) vs, fun i => if i = j then vs else G i, fun i => if i ≤ j then B i else w2.heap.size, own_setFrom vs w2 xs (j * s) g1, h2.step h1.1 hj hv, by simpa using h3, fun i => ?_, fun i hi => ?_, ?_, fun i hi hij => ?_, later_setFrom (Nat.le_refl _) vs w2 (j * s) (h8.trans hb)⟩
  · by_cases a : i ≤ j
    · by_cases b : i + 1 ≤ j
      · simp only [if_pos a, if_pos b]; exact h4 i
      · simp only [if_pos a, if_neg b]
        have := mono_le h4 a
        omega
    · simp only [if_neg a, if_neg (show ¬ i + 1 ≤ j by omega)]; exact Nat.le_refl _
  · simp only [if_neg (show ¬ i ≤ j by omega), if_neg (show ¬ j + 1 ≤ j by omega)]
  · simp only [if_neg (show ¬ j + 1 ≤ j by omega)]
    rw [size_setFrom]
    exact Nat.le_refl _
  · have hchg : ∀ w0, Chg (fun b => b = W.heap.size) w0 (setFrom w0 W.heap.size (j * s) vs) := by
      have : ∀ (vs : List Value) (w0 : World) (o : Nat), Chg (fun b => b = W.heap.size) w0 (setFrom w0 W.heap.size o vs) := by
        intro vs
        induction vs with
        | nil => intro w0 o; exact Chg.rfl' _ _
        | cons u us ih => intro w0 o; exact (Chg.set (S := fun b => b = W.heap.size) (g := W.heap.size) (o := o) (u := u) (Chg.rfl' _ w0) rfl).trans (ih _ _)
      exact fun w0 => this vs w0 (j * s)
    by_cases e : i = j
    · subst e
      simp only [if_pos, if_pos (Nat.le_refl i), if_neg (show ¬ i + 1 ≤ i by omega)]
      refine (ho.chg (hchg w2) fun b h1 h2 => ?_).more fun b hb => ⟨by have := hb.1; omega, hb.2⟩
      subst h2
      omega
    · simp only [if_neg e, if_pos (show i ≤ j by omega), if_pos (show i + 1 ≤ j by omega)]
      refine ((h7 i hi (by omega)).later hb).chg (hchg w2) fun b h1 h2 => ?_
      subst h2
      have := hB0 i
      omega
theorem Filling.done {α : Type} {W wr : World} {e s : Nat} {enc : α → List Dt} (hs : ∀ a, (enc a).length = s) (h0 : 0 < s) {l : List α} (h : Filling W wr e s enc l l.length) :
    Own wr (fun b => W.heap.size ≤ b ∧ b < wr.heap.size) (.sl s l.length (l.flatMap enc)) (.slice (some ⟨W.heap.size, 0, none⟩) l.length l.length) := by
  obtain ⟨xs, G, B, h1, h2, h3, h4, h5, h6, h7, h8⟩ := h
  have hB0 : ∀ i, W.heap.size < B i := fun i => Nat.lt_of_lt_of_le h3 (mono_le h4 (Nat.zero_le i))
  have hW := h1.lt W.heap.size rfl
  have : ∀ i, ∃ T : Nat → Nat → Prop, ∀ hi : i < l.length, (∀ j b, T j b → B i ≤ b ∧ b < B (i + 1)) ∧ (∀ j j', j ≠ j' → ∀ b, T j b → T j' b → False) ∧ ∀ (j : Nat) d u, (enc l[i])[j]? = some d → (G i)[j]? = some u → Own wr (T j) d u := by
    intro i
    by_cases hi : i < l.length
    · obtain ⟨_, T, a, b, c⟩ := h7 i hi hi
      exact ⟨T, fun _ => ⟨a, b, c⟩⟩
    · exact ⟨noB, fun h => absurd h hi⟩
  obtain ⟨T, hT⟩ : ∃ T : Nat → Nat → Nat → Prop, ∀ i (hi : i < l.length), (∀ j b, T i j b → B i ≤ b ∧ b < B (i + 1)) ∧ (∀ j j', j ≠ j' → ∀ b, T i j b → T i j' b → False) ∧ ∀ (j : Nat) d u, (enc l[i])[j]? = some d → (G i)[j]? = some u → Own wr (T i j) d u :=
    ⟨fun i => (this i).choose, fun i hi => (this i).choose_spec hi⟩
  have hfl := flat_len hs l
  refine Own.of_row (fun p b => p < l.length * s ∧ T (p / s) (p % s) b) h1 hfl (fun g hg => ?_) (fun p b hb => ?_) (fun p p' hpp b hb hb' => ?_) (fun p d u hd hu => ?_)
  · simp only [Value.ownBlock, Option.some.injEq] at hg
    subst hg
    refine ⟨⟨Nat.le_refl _, hW.2⟩, fun p hp => ?_⟩
    have hi : p / s < l.length := (Nat.div_lt_iff_lt_mul h0).2 hp.1
    have := (hT _ hi).1 _ _ hp.2
    have := hB0 (p / s)
    omega
  · have hi : p / s < l.length := (Nat.div_lt_iff_lt_mul h0).2 hb.1
    have := (hT _ hi).1 _ _ hb.2
    have h9 := hB0 (p / s)
    have h10 : B (p / s + 1) ≤ B l.length := mono_le h4 hi
    omega
  · have hi : p / s < l.length := (Nat.div_lt_iff_lt_mul h0).2 hb.1
    have hi' : p' / s < l.length := (Nat.div_lt_iff_lt_mul h0).2 hb'.1
    have h9 := (hT _ hi).1 _ _ hb.2
    have h10 := (hT _ hi').1 _ _ hb'.2
    by_cases e : p / s = p' / s
    · have : p % s ≠ p' % s := by
        intro e2
        apply hpp
        rw [← Nat.div_add_mod' p s, ← Nat.div_add_mod' p' s, e, e2]
      have hb2 := hb'.2
      rw [← e] at hb2
      exact (hT _ hi).2.1 _ _ this b hb.2 hb2
    · rcases Nat.lt_or_gt_of_ne e with h | h
      · have := mono_le h4 (show p / s + 1 ≤ p' / s by omega)
        omega
      · have := mono_le h4 (show p' / s + 1 ≤ p / s by omega)
        omega
  · have hp : p < l.length * s := by rw [← hfl]; exact (List.getElem?_eq_some_iff.1 hd).1
    have hi : p / s < l.length := (Nat.div_lt_iff_lt_mul h0).2 hp
    have hj : p % s < s := Nat.mod_lt _ h0
    have hpe : p / s * s + p % s = p := Nat.div_add_mod' p s
    have hd2 := flat_get hs l hi hj
    rw [hpe, hd] at hd2
    obtain ⟨f1, f2⟩ := h2 (p / s) hi
    have hu2 : (G (p / s))[p % s]? = some ((G (p / s))[p % s]'(by rw [f1]; exact hj)) := List.getElem?_eq_getElem _
    have hu3 := f2 _ _ hu2
    rw [hpe, hu] at hu3
    have ho := (hT _ hi).2.2 (p % s) d u hd2.symm (by rw [hu2]; exact hu3.symm)
    exact ho.more fun b hb => ⟨hp, hb⟩

/-- The outcome of a copying function: a slice of the call's own. -/
def CopyS {α : Type} (W w' : World) (s : Nat) (enc : α → List Dt) (l : List α) (r : Ending) : Prop := ∃ v, r = .returned v ∧ Own w' (fun b => W.heap.size ≤ b ∧ b < w'.heap.size) (.sl s l.length (l.flatMap enc)) v
theorem owns_leaves {w : World} {S S' : Nat → Prop} {ds : List Dt} {cs : List Value} (h : Ats w S ds cs) (hl : ∀ d, d ∈ ds → (∃ n, d = .int n) ∨ ∃ s, d = .str s) : Owns w S' ds cs := by
  refine ⟨h.len, noB, fun _ _ h => False.elim h, fun _ _ _ _ h => False.elim h, fun i d u hd hu => ?_⟩
  obtain ⟨c, hc, ha⟩ := h.at_ hd
  rw [hu] at hc
  cases hc
  rcases hl d (List.mem_of_getElem? hd) with ⟨n, rfl⟩ | ⟨s, rfl⟩
  · obtain ⟨rfl, hb⟩ := ha.int_inv
    exact .int _ _ hb
  · obtain ⟨rfl, hb⟩ := ha.str_inv
    exact .str _ _ hb
theorem info_int : (Tryd.prog.info? 3).map (fun i => (i.zero, i.size, i.bytes)) = some (some (.int .i64 0), 1, 8) := by kernel_rfl
end Go.Proofs.YtjjmbldgemnhbaaDoor
