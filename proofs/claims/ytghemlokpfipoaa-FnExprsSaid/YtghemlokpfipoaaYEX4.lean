/-
  Draws of expressions: pushing onto a slice; lists: the walks.
-/
import Derived.Test.YtghemlokpfipoaaYEX3
import Derived.Test.YtghemlokpfipoaaYCP1
namespace Go.Proofs.Ytghemlokpfipoaa
open Go.ChangeShapes Go.WideShapes Go.ChangeAt Go.RowKit
set_option linter.unusedVariables false
set_option linter.unusedSimpArgs false
set_option maxRecDepth 100000

theorem Ats.one {w : World} {S : Nat → Prop} {ds : List Dt} {us : List Value} (h : Ats w S ds us) : ∀ u ∈ us, u.oneCell' = true := by
  induction h with
  | nil => intro u hu; simp at hu
  | cons h t ih =>
    intro u hu
    rcases List.mem_cons.1 hu with rfl | hu
    · exact at_one h
    · exact ih u hu
/-- One more element: what the append asks for, and what it leaves. -/
theorem TopE.push {lo : Nat} {w w1 : World} {l : List Ex} {v : Value} (h : TopE lo w l v) {S : Nat → Prop} (hb : Chg S w w1) (hS : ∀ b, lo ≤ b → ¬ S b) (hlo : lo ≤ w.heap.size) {x : Ex} {us : List Value}
    (ho : Ats w1 (fun b => w.heap.size ≤ b ∧ b < w1.heap.size) (encE x) us) (tt : TypeId) :
    ∃ xs, (w1.alloc (.cells us.toArray tt)).ownsRow lo 67 4 v l.length xs ∧ us.length = 1 * 4 ∧ (∀ u ∈ us, u.oneCell' = true) ∧ (∀ j u, us[j]? = some u → (w1.alloc (.cells us.toArray tt)).cell? ((⟨w1.heap.size, 0, none⟩ : Addr).add j) = some u) ∧ lo ≤ (w1.alloc (.cells us.toArray tt)).heap.size ∧
      ∀ g cap w2, w2.ownsRow lo 67 4 (.slice (some ⟨g, 0, none⟩) (l.length + 1) cap) (l.length + 1) (xs ++ us) → (w1.alloc (.cells us.toArray tt)).grownBy w2 v.ownBlock → (v.ownBlock = some g ∨ g = w1.heap.size + 1) →
        TopE lo w2 (l ++ [x]) (.slice (some ⟨g, 0, none⟩) (l.length + 1) cap) := by
  obtain ⟨xs, h1, h2⟩ := h
  have hsz := hb.size
  have hxl : xs.length = l.length * 4 := h1.1
  have hfl : (l.flatMap encE).length = l.length * 4 := flat_len encE_len l
  have hus : us.length = 1 * 4 := by rw [ho.len, encE_len]
  refine ⟨xs, row_block h1 fun g hg => ?_, hus, ho.one, World.news_of_block (heap_alloc_new w1 _), by rw [World.size_alloc]; omega, fun g cap w2 hr hg hat => ?_⟩
  · have hl := (h1.lt g hg).2
    exact (Below.block ((Later.rfl' w1).alloc (.cells us.toArray tt)) g (by omega)).trans (hb.block g hl (hS g (h1.lt g hg).1))
  have hs2 := hg.size
  rw [World.size_alloc] at hs2
  have key : ∀ b, b < w1.heap.size → v.ownBlock ≠ some b → w2.heap[b]? = w1.heap[b]? := fun b hb1 hne => (hg.block b (by rw [World.size_alloc]; omega) (fun e => hne e.symm)).trans (Below.block ((Later.rfl' w1).alloc (.cells us.toArray tt)) b hb1)
  have hnew : ∀ b, b < w1.heap.size → v.ownBlock ≠ some b → (Value.slice (some ⟨g, 0, none⟩) (l.length + 1) cap).ownBlock ≠ some b := fun b hb1 hne e => by
    simp only [Value.ownBlock, Option.some.injEq] at e
    rcases hat with h | h
    · exact hne (by rw [h, e])
    · omega
  refine ⟨xs ++ us, by rw [List.length_append]; exact hr, fun p d u hd hu => ?_⟩
  rw [List.flatMap_append] at hd
  by_cases hp : p < l.length * 4
  · rw [List.getElem?_append_left (by omega)] at hd hu
    refine ((h2 p d u hd hu).chg hb fun b hT hs' => hS b hT.1 hs').keep fun b hT hlt => ?_
    have := key b hlt (fun e => hT.2 e)
    exact ⟨⟨hT.1, hnew b hlt hT.2⟩, by omega, this⟩
  · rw [List.getElem?_append_right (by omega), hfl] at hd
    rw [List.getElem?_append_right (by omega), hxl] at hu
    have hd' : (encE x)[p - l.length * 4]? = some d := by simpa using hd
    obtain ⟨c, hc, ha⟩ := ho.at_ hd'
    rw [hu] at hc
    cases hc
    have hne : ∀ b, w.heap.size ≤ b → v.ownBlock ≠ some b := fun b hb1 e => by have := (h1.lt b e).2; omega
    exact ha.keep fun b hT hlt => ⟨⟨by omega, hnew b hlt (hne b hT.1)⟩, by omega, key b hlt (hne b hT.1)⟩
/-- 'v.f = append(v.f, x)', v a variable of the call's own. -/
theorem top_all {lo gB p : Nat} {wr w3 : World} {l : List Ex} {lv : Value} {cells : List Value} {x : Ex} {us : List Value} (tt : TypeId)
    (B : Box wr gB cells) (hp : TopE lo wr l lv) (hgB : gB < lo) (hlo : lo ≤ wr.heap.size) {S : Nat → Prop} (c : Chg S wr w3) (hS : ∀ b, S b → b < gB) (ho : Ats w3 (fun b => wr.heap.size ≤ b ∧ b < w3.heap.size) (encE x) us) :
    Box w3 gB cells ∧ ∃ xs, (w3.alloc (.cells us.toArray tt)).ownsRow lo 67 4 lv l.length xs ∧ us.length = 1 * 4 ∧ (∀ u ∈ us, u.oneCell' = true) ∧ (∀ j u, us[j]? = some u → (w3.alloc (.cells us.toArray tt)).cell? ((⟨w3.heap.size, 0, none⟩ : Addr).add j) = some u) ∧ lo ≤ (w3.alloc (.cells us.toArray tt)).heap.size ∧
      ∀ g cap w4, w4.ownsRow lo 67 4 (.slice (some ⟨g, 0, none⟩) (l.length + 1) cap) (l.length + 1) (xs ++ us) → (w3.alloc (.cells us.toArray tt)).grownBy w4 lv.ownBlock → (lv.ownBlock = some g ∨ g = w3.heap.size + 1) →
        Box w4 gB cells ∧ Hid (TopE lo (w4.setCell ⟨gB, p, none⟩ (.slice (some ⟨g, 0, none⟩) (l.length + 1) cap)) (l ++ [x]) (.slice (some ⟨g, 0, none⟩) (l.length + 1) cap) ∧
          Box (w4.setCell ⟨gB, p, none⟩ (.slice (some ⟨g, 0, none⟩) (l.length + 1) cap)) gB (cells.set p (.slice (some ⟨g, 0, none⟩) (l.length + 1) cap)) ∧
          Chg (fun b => gB ≤ b) w3 (w4.setCell ⟨gB, p, none⟩ (.slice (some ⟨g, 0, none⟩) (l.length + 1) cap))) := by
  have B3 : Box w3 gB cells := B.chg c fun h => by have := hS _ h; omega
  have hlow := fun b (hb : some b = lv.ownBlock) => (let ⟨_, h1, _⟩ := hp; h1.lt b hb.symm).1
  obtain ⟨xs, a1, a2, a3, a4, a5, a6⟩ := hp.push c (fun b hb h => by have := hS b h; omega) hlo ho tt
  refine ⟨B3, xs, a1, a2, a3, a4, a5, fun g cap w4 hr hg hat => ?_⟩
  have hg4 := chg_grown hg
  have B4 : Box w4 gB cells := (B3.later ((Later.rfl' w3).alloc _)).chg hg4 fun h => by have := hlow _ h; omega
  refine ⟨B4, (a6 g cap w4 hr hg hat).chg (C := fun b => b = gB) ((Chg.rfl' _ w4).set rfl) (fun b hb _ h => by omega), B4.set p _, ?_⟩
  exact ((((Later.rfl' w3).alloc _).chg _).trans (hg4.more fun b hb => by have := hlow b hb; omega)).set (Nat.le_refl _)
theorem writeAt_end (us vs : List Value) (h : us.length = vs.length) : ∀ xs : List Value, writeAt (xs ++ us) xs.length vs = xs ++ vs := by
  intro xs
  apply List.ext_getElem?
  intro i
  by_cases h1 : i < xs.length
  · rw [writeAt_low _ _ _ _ h1, List.getElem?_append_left h1, List.getElem?_append_left h1]
  · obtain ⟨j, rfl⟩ : ∃ j, i = xs.length + j := ⟨i - xs.length, by omega⟩
    by_cases h2 : j < vs.length
    · rw [writeAt_at _ _ _ _ (by rw [List.length_append]; omega) h2, List.getElem?_append_right (by omega), Nat.add_sub_cancel_left]
    · rw [List.getElem?_eq_none (by rw [length_writeAt, List.length_append]; omega), List.getElem?_eq_none (by rw [List.length_append]; omega)]
/-- The last element written anew. -/
theorem TopE.last {lo : Nat} {w : World} {l : List Ex} {x y : Ex} {gb cap : Nat} {us : List Value} (h : TopE lo w (l ++ [x]) (.slice (some ⟨gb, 0, none⟩) (l.length + 1) cap)) (ho : Ats w (fun b => lo ≤ b ∧ b ≠ gb) (encE y) us) :
    (∃ u0 u1 u2 u3, w.cell? ⟨gb, l.length * 4, none⟩ = some u0 ∧ w.cell? ⟨gb, l.length * 4 + 1, none⟩ = some u1 ∧ w.cell? ⟨gb, l.length * 4 + 2, none⟩ = some u2 ∧ w.cell? ⟨gb, l.length * 4 + 3, none⟩ = some u3) ∧ (∀ j, w.frozen? ⟨gb, j, none⟩ = false) ∧ gb < w.heap.size ∧ lo ≤ gb ∧
      TopE lo (setFrom w gb (l.length * 4) us) (l ++ [y]) (.slice (some ⟨gb, 0, none⟩) (l.length + 1) cap) := by
  obtain ⟨xs, h1, h2⟩ := h
  rw [List.length_append] at h1
  have hl := h1.1
  have hg := h1.lt gb rfl
  have hxl : xs.length = l.length * 4 + 4 := by rw [hl]; simp; omega
  have hul : us.length = 4 := by rw [ho.len, encE_len]
  have hc := fun j (hj : j < l.length * 4 + 4) => (⟨_, (h1.cellAt j (show j < (l.length + 1) * 4 by omega)).trans (List.getElem?_eq_getElem (by omega))⟩ : ∃ u, w.cell? ⟨gb, j, none⟩ = some u)
  obtain ⟨u0, e0⟩ := hc (l.length * 4) (by omega)
  obtain ⟨u1, e1⟩ := hc (l.length * 4 + 1) (by omega)
  obtain ⟨u2, e2⟩ := hc (l.length * 4 + 2) (by omega)
  obtain ⟨u3, e3⟩ := hc (l.length * 4 + 3) (by omega)
  refine ⟨⟨u0, u1, u2, u3, e0, e1, e2, e3⟩, h1.frozenAt, hg.2, hg.1, ?_⟩
  have hset := own_setFrom us w xs (l.length * 4) h1
  have c := chg_setFrom (g := gb) us w (l.length * 4)
  have hsp : xs = xs.take (l.length * 4) ++ xs.drop (l.length * 4) := (List.take_append_drop _ _).symm
  have htl : (xs.take (l.length * 4)).length = l.length * 4 := by rw [List.length_take]; omega
  have hw : writeAt xs (l.length * 4) us = xs.take (l.length * 4) ++ us := by
    conv => lhs; rw [hsp]
    have := writeAt_end (xs.drop (l.length * 4)) us (by rw [List.length_drop]; omega) (xs.take (l.length * 4))
    rw [htl] at this
    exact this
  rw [hw] at hset
  refine ⟨xs.take (l.length * 4) ++ us, by rw [List.length_append]; exact hset, fun p d u hd hu => ?_⟩
  rw [List.flatMap_append] at hd
  have hfl : (l.flatMap encE).length = l.length * 4 := flat_len encE_len l
  by_cases hp : p < l.length * 4
  · rw [List.getElem?_append_left (by omega)] at hd hu
    have hu' : xs[p]? = some u := by rw [← hu, List.getElem?_take_of_lt hp]
    have hd' : ((l ++ [x]).flatMap encE)[p]? = some d := by rw [List.flatMap_append, List.getElem?_append_left (by omega)]; exact hd
    exact (h2 p d u hd' hu').chg c fun b hb e => hb.2 (by rw [e]; rfl)
  · rw [List.getElem?_append_right (by omega), hfl] at hd
    rw [List.getElem?_append_right (by omega), htl] at hu
    have hd' : (encE y)[p - l.length * 4]? = some d := by simpa using hd
    obtain ⟨z, hz, ha⟩ := ho.at_ hd'
    rw [hu] at hz
    cases hz
    exact (ha.chg c fun b hb e => hb.2 e).more fun b hb => ⟨hb.1, fun e => hb.2 (by simp only [Value.ownBlock, Option.some.injEq] at e; exact e.symm)⟩
end Go.Proofs.Ytghemlokpfipoaa
