/-
  Elements pushed: what an append of one struct that has just been made asks for, and what it leaves.
-/
import Derived.Test.YtjjmbldgemnhbaaYPU
import Derived.Test.YtjjmbldgemnhbaaYK3
import Derived.Deep.AppendLies
import Derived.Deep.RegionLaw
namespace Go.Proofs.Ytjjmbldgemnhbaa
open Go.ChangeShapes Go.WideShapes Go.ChangeAt Go.RowKit
set_option linter.unusedVariables false
set_option linter.unusedSimpArgs false

theorem own_one {w : World} {T : Nat → Prop} {d : Dt} {u : Value} (h : Own w T d u) : u.oneCell' = true := by
  cases h with
  | int S n h => rfl
  | str S s h => rfl
  | sl S s n ds v e xs T hrow hl hS hT hsep hF => obtain ⟨A, c, rfl, _⟩ := row_shape hrow; rfl
theorem Owns.one {w : World} {S : Nat → Prop} {ds : List Dt} {us : List Value} (h : Owns w S ds us) : ∀ u ∈ us, u.oneCell' = true := by
  obtain ⟨hl, T, h1, h2, h3⟩ := h
  intro u hu
  obtain ⟨i, hi, rfl⟩ := List.getElem_of_mem hu
  exact own_one (h3 i _ _ (List.getElem?_eq_getElem (by omega)) (List.getElem?_eq_getElem hi))
/-- As 'push', where blocks below 'lo' may have turned. -/
theorem Pushed.push' {α : Type} {lo : Nat} {w w1 : World} {e s : Nat} {enc : α → List Dt} (hs : ∀ a, (enc a).length = s) {l : List α} {v : Value} (h : Pushed lo w e s enc l v) {S : Nat → Prop} (hb : Chg S w w1) (hS : ∀ b, lo ≤ b → ¬ S b) (hlo : lo ≤ w.heap.size) {x : α} {us : List Value}
    (ho : Owns w1 (fun b => w.heap.size ≤ b ∧ b < w1.heap.size) (enc x) us) :
    ∃ xs, w1.ownsRow lo e s v l.length xs ∧ us.length = 1 * s ∧ ∀ v' w2, w2.ownsRow lo e s v' (l.length + 1) (xs ++ us) → w1.grownBy w2 v.ownBlock → (v'.ownBlock = v.ownBlock ∨ v'.ownBlock = some w1.heap.size) → Pushed lo w2 e s enc (l ++ [x]) v' := by
  obtain ⟨xs, T, h1, h2, h3, h4⟩ := h
  obtain ⟨hl, T2, k1, k2, k3⟩ := ho
  have hsz := hb.size
  have hus : us.length = 1 * s := by rw [hl, hs, Nat.one_mul]
  have hxl : xs.length = l.length * s := h1.1
  have hfl : (l.flatMap enc).length = l.length * s := flat_len hs l
  refine ⟨xs, row_block h1 fun g hg => hb.block g (h1.lt g hg).2 (hS g (h1.lt g hg).1), hus, fun v' w2 hr hg hat => ?_⟩
  refine ⟨xs ++ us, fun p b => (p < l.length * s ∧ T p b) ∨ (l.length * s ≤ p ∧ T2 (p - l.length * s) b), by rw [List.length_append]; exact hr, ?_, ?_, ?_⟩
  · rintro p b (⟨hp, hT⟩ | ⟨hp, hT⟩)
    · obtain ⟨a1, a2, a3⟩ := h2 p b hT
      refine ⟨a1, by have := hg.size; omega, fun e => ?_⟩
      rcases hat with h | h
      · exact a3 (h ▸ e)
      · rw [h] at e
        simp only [Option.some.injEq] at e
        omega
    · obtain ⟨a1, a2⟩ := k1 _ b hT
      refine ⟨by omega, by have := hg.size; omega, fun e => ?_⟩
      rcases hat with h | h
      · rw [h] at e
        have := (h1.lt b e).2
        omega
      · rw [h] at e
        simp only [Option.some.injEq] at e
        omega
  · rintro p p' hne b (⟨hp, hT⟩ | ⟨hp, hT⟩) (⟨hp', hT'⟩ | ⟨hp', hT'⟩)
    · exact h3 p p' hne b hT hT'
    · have := (h2 p b hT).2.1
      have := (k1 _ b hT').1
      omega
    · have := (h2 p' b hT').2.1
      have := (k1 _ b hT).1
      omega
    · exact k2 _ _ (by omega) b hT hT'
  · intro p d u hd hu
    rw [List.flatMap_append] at hd
    by_cases hp : p < l.length * s
    · rw [List.getElem?_append_left (by omega)] at hd hu
      refine ((h4 p d u hd hu).chg hb fun b hT hs' => hS b (h2 p b hT).1 hs').keep fun b hT hlt => ⟨.inl ⟨hp, hT⟩, hg.block b hlt fun e => (h2 p b hT).2.2 e.symm⟩
    · rw [List.getElem?_append_right (by omega), hfl] at hd
      rw [List.getElem?_append_right (by omega), hxl] at hu
      have hd' : (enc x)[p - l.length * s]? = some d := by simpa using hd
      refine (k3 _ d u hd' hu).keep fun b hT hlt => ⟨.inr ⟨by omega, hT⟩, hg.block b hlt fun e => ?_⟩
      have := (h1.lt b e.symm).2
      have := (k1 _ b hT).1
      omega
/-- The new element lies in a block of its own ('append(out, x)'). -/
theorem Pushed.ask {α : Type} {lo : Nat} {w0 w1 : World} {e s : Nat} {enc : α → List Dt} (hs : ∀ a, (enc a).length = s) {l : List α} {v : Value} (h : Pushed lo w0 e s enc l v) {S : Nat → Prop} (hb : Chg S w0 w1) (hS : ∀ b, lo ≤ b → ¬ S b) (hlo : lo ≤ w0.heap.size) {x : α} {us : List Value}
    (ho : Owns w1 (fun b => w0.heap.size ≤ b ∧ b < w1.heap.size) (enc x) us) (tt : TypeId) :
    ∃ xs, (w1.alloc (.cells us.toArray tt)).ownsRow lo e s v l.length xs ∧ us.length = 1 * s ∧ (∀ u ∈ us, u.oneCell' = true) ∧ (∀ j u, us[j]? = some u → (w1.alloc (.cells us.toArray tt)).cell? ((⟨w1.heap.size, 0, none⟩ : Addr).add j) = some u) ∧ lo ≤ (w1.alloc (.cells us.toArray tt)).heap.size ∧
      ∀ g cap w2, w2.ownsRow lo e s (.slice (some ⟨g, 0, none⟩) (l.length + 1) cap) (l.length + 1) (xs ++ us) → (w1.alloc (.cells us.toArray tt)).grownBy w2 v.ownBlock → (v.ownBlock = some g ∨ g = w1.heap.size + 1) →
        Pushed lo w2 e s enc (l ++ [x]) (.slice (some ⟨g, 0, none⟩) (l.length + 1) cap) := by
  have hb' : Chg S w0 (w1.alloc (.cells us.toArray tt)) := hb.trans (((Later.rfl' w1).alloc _).chg S)
  have hsz : (w1.alloc (.cells us.toArray tt)).heap.size = w1.heap.size + 1 := by simp
  have ho' : Owns (w1.alloc (.cells us.toArray tt)) (fun b => w0.heap.size ≤ b ∧ b < (w1.alloc (.cells us.toArray tt)).heap.size) (enc x) us :=
    (ho.later ((Later.rfl' w1).alloc _)).more fun b hb => ⟨hb.1, by rw [hsz]; omega⟩
  obtain ⟨xs, a1, a2, a3⟩ := h.push' hs hb' hS hlo ho'
  refine ⟨xs, a1, a2, ho.one, World.news_of_block (heap_alloc_new w1 _), by have := hb.size; rw [hsz]; omega, fun g cap w2 hr hg hat => a3 _ w2 hr hg ?_⟩
  rcases hat with h | h
  · exact .inl (by rw [h]; rfl)
  · exact .inr (by rw [h, hsz]; rfl)
theorem chg_setFrom {g : Nat} (vs : List Value) : ∀ (w : World) (o : Nat), Chg (fun b => b = g) w (setFrom w g o vs) := by
  induction vs with
  | nil => intro w o; exact Chg.rfl' _ _
  | cons v vs ih => intro w o; exact ((Chg.rfl' (fun b => b = g) w).set rfl).trans (ih _ _)
/-- 'v.f = append(v.f, x)', v a variable of the call's own (block gB, its cells): what the append asks for, what it leaves, what the store leaves. -/
theorem push_all {α : Type} {lo gB p : Nat} {wr w3 : World} {e s : Nat} {enc : α → List Dt} (hs : ∀ a, (enc a).length = s) {l : List α} {lv : Value} {cells : List Value} {x : α} {us : List Value} (tt : TypeId)
    (B : Box wr gB cells) (hp : Pushed lo wr e s enc l lv) (hgB : gB < lo) (hlo : lo ≤ wr.heap.size) {S : Nat → Prop} (c : Chg S wr w3) (hS : ∀ b, S b → b < gB) (ho : Owns w3 (fun b => wr.heap.size ≤ b ∧ b < w3.heap.size) (enc x) us) :
    Box w3 gB cells ∧ ∃ xs, (w3.alloc (.cells us.toArray tt)).ownsRow lo e s lv l.length xs ∧ us.length = 1 * s ∧ (∀ u ∈ us, u.oneCell' = true) ∧ (∀ j u, us[j]? = some u → (w3.alloc (.cells us.toArray tt)).cell? ((⟨w3.heap.size, 0, none⟩ : Addr).add j) = some u) ∧ lo ≤ (w3.alloc (.cells us.toArray tt)).heap.size ∧
      ∀ g cap w4, w4.ownsRow lo e s (.slice (some ⟨g, 0, none⟩) (l.length + 1) cap) (l.length + 1) (xs ++ us) → (w3.alloc (.cells us.toArray tt)).grownBy w4 lv.ownBlock → (lv.ownBlock = some g ∨ g = w3.heap.size + 1) →
        Box w4 gB cells ∧ Hid (Pushed lo (w4.setCell ⟨gB, p, none⟩ (.slice (some ⟨g, 0, none⟩) (l.length + 1) cap)) e s enc (l ++ [x]) (.slice (some ⟨g, 0, none⟩) (l.length + 1) cap) ∧
          Box (w4.setCell ⟨gB, p, none⟩ (.slice (some ⟨g, 0, none⟩) (l.length + 1) cap)) gB (cells.set p (.slice (some ⟨g, 0, none⟩) (l.length + 1) cap)) ∧
          Chg (fun b => gB ≤ b) w3 (w4.setCell ⟨gB, p, none⟩ (.slice (some ⟨g, 0, none⟩) (l.length + 1) cap))) := by
  have B3 : Box w3 gB cells := B.chg c fun h => by have := hS _ h; omega
  have hlow := fun b (hb : some b = lv.ownBlock) => (let ⟨_, _, h1, _⟩ := hp; h1.lt b hb.symm).1
  obtain ⟨xs, a1, a2, a3, a4, a5, a6⟩ := hp.ask hs c (fun b hb h => by have := hS b h; omega) hlo ho tt
  refine ⟨B3, xs, a1, a2, a3, a4, a5, fun g cap w4 hr hg hat => ?_⟩
  have hg4 := chg_grown hg
  have B4 : Box w4 gB cells := (B3.later ((Later.rfl' w3).alloc _)).chg hg4 fun h => by have := hlow _ h; omega
  refine ⟨B4, (a6 g cap w4 hr hg hat).chg (S := fun b => b = gB) ((Chg.rfl' _ w4).set rfl) (fun b hb h => by omega), B4.set p _, ?_⟩
  exact ((((Later.rfl' w3).alloc _).chg _).trans (hg4.more fun b hb => by have := hlow b hb; omega)).set (Nat.le_refl _)
end Go.Proofs.Ytjjmbldgemnhbaa
