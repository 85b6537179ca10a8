/-
  A set that the call makes: a map of bools, asked and stored into.
-/
import Derived.Test.YtjjmbldgemnhbaaYOwn
import Derived.Maps.Own
import Derived.DeepKeys4
import Derived.Deep.RegionLaw
namespace Go.Proofs.Ytjjmbldgemnhbaa
open Go.RowKit
open Go.Maps (Keyed)
open Go.ChangeMaps Go.MapKept
set_option linter.unusedVariables false
set_option linter.unusedSimpArgs false

/-- Block b is a map whose keys are those of l, each with true. -/
def SetAt (w : World) (P : Program) (k : TypeId) (b : Nat) (l : List Value) : Prop :=
  ∃ es clock, w.heap[b]? = some (.map es clock) ∧ (∀ x ∈ es.toList, x.val = .bool true ∧ ∃ kl, keyOf P k x.key = some kl) ∧ ∀ v, (∃ x ∈ es.toList, x.key = v) ↔ v ∈ l
theorem set_made (w : World) (P : Program) (k : TypeId) : SetAt (w.alloc (.map #[] 0)) P k w.heap.size [] :=
  ⟨#[], 0, (MapKept.heap_alloc w _).1, by simp, by simp⟩
theorem SetAt.keep {w w' : World} {P : Program} {k : TypeId} {b : Nat} {l : List Value} (h : SetAt w P k b l) (hb : w'.heap[b]? = w.heap[b]?) : SetAt w' P k b l := by
  obtain ⟨es, clock, h1, h2⟩ := h
  exact ⟨es, clock, hb.trans h1, h2⟩
theorem SetAt.lt {w : World} {P : Program} {k : TypeId} {b : Nat} {l : List Value} (h : SetAt w P k b l) : b < w.heap.size := by
  obtain ⟨es, clock, hb, _⟩ := h
  exact (Array.getElem?_eq_some_iff.1 hb).1
theorem set_look {w : World} {P : Program} {k t e : TypeId} {b : Nat} {l : List Value} (h : SetAt w P k b l) (K : Keyed P k) (ht : P.underlying t = some (.map k e)) (hz : (zeroValue e).run P w = .ok (.bool false) w) {key : Value} {kl : Lit} (hkey : keyOf P k key = some kl) :
    (key ∈ l ∧ (Instr.lookup t (.map (some b)) key false).run P w = .ok (.bool true) w) ∨ (key ∉ l ∧ (Instr.lookup t (.map (some b)) key false).run P w = .ok (.bool false) w) := by
  obtain ⟨es, clock, hb, h1, h2⟩ := h
  rcases K.find w hkey es.toList (fun x hx => (h1 x hx).2) with ⟨g1, g2⟩ | ⟨j, e0, g1, g2, g3⟩
  · right
    refine ⟨fun hm => ?_, by simp [Instr.lookup, run_underlying ht, MapKept.run_getObj_map hb, K.check w _ hkey, g1, hz, Result.andThen]⟩
    obtain ⟨x, hx, e1⟩ := (h2 key).2 hm
    exact g2 x hx e1
  · left
    have hm0 : e0 ∈ es.toList := List.mem_of_getElem? g2
    have hv := (h1 e0 hm0).1
    exact ⟨(h2 key).1 ⟨e0, hm0, g3⟩, by simp [Instr.lookup, run_underlying ht, MapKept.run_getObj_map hb, K.check w _ hkey, g1, hv, Result.andThen]⟩
theorem set_put {w : World} {P : Program} {k t e : TypeId} {b : Nat} {l : List Value} (h : SetAt w P k b l) (K : Keyed P k) (ht : P.underlying t = some (.map k e)) {key : Value} {kl : Lit} (hkey : keyOf P k key = some kl) (hne : key ∉ l) :
    ∃ w', (Instr.mapUpdate t (.map (some b)) key (.bool true)).run P w = .ok () w' ∧ SetAt w' P k b (key :: l) ∧ w.grownBy w' (some b) := by
  obtain ⟨es, clock, hb, h1, h2⟩ := h
  rcases K.find w hkey es.toList (fun x hx => (h1 x hx).2) with ⟨g1, g2⟩ | ⟨j, e0, g1, g2, g3⟩
  · refine ⟨setBlock w b (.map (es.push ⟨key, .bool true, clock⟩) (clock + 1)), ?_, ⟨_, _, heap_setBlock_same hb _, fun x hx => ?_, fun v => ?_⟩, ⟨rfl, rfl, rfl, by simp [setBlock], fun i _ hi => heap_setBlock_other hb _ (fun e => hi (by rw [e]))⟩⟩
    · simp [Instr.mapUpdate, run_underlying ht, MapKept.run_getObj_map hb, K.check w false hkey, g1, MapKept.run_setObj_map _ hb, Result.andThen, setBlock]
    · simp only [Array.toList_push, List.mem_append, List.mem_singleton] at hx
      rcases hx with hx | rfl
      · exact h1 x hx
      · exact ⟨rfl, kl, hkey⟩
    · rw [List.mem_cons, ← h2 v]
      constructor
      · rintro ⟨x, hx, e1⟩
        simp only [Array.toList_push, List.mem_append, List.mem_singleton] at hx
        rcases hx with hx | rfl
        · exact .inr ⟨x, hx, e1⟩
        · exact .inl e1.symm
      · rintro (e1 | ⟨x, hx, e1⟩)
        · exact ⟨⟨key, .bool true, clock⟩, by simp, e1.symm⟩
        · exact ⟨x, by simp [Array.mem_toList_iff.1 hx], e1⟩
  · exact absurd ((h2 key).1 ⟨e0, List.mem_of_getElem? g2, g3⟩) hne
theorem wpList_lookup_set {P : Program} (w : World) {ops : Array Oper} {rest : List Oper} {o : Oper} {a : Act} {Q : Exit → Act → World → Prop}
    (hg : o.guard = none) (m x : Operand) (t : TypeId) (hop : o.op = Op.lookup t m x false)
    (k e : TypeId) (K : Keyed P k) (ht : P.underlying t = some (.map k e)) (hz : (zeroValue e).run P w = .ok (.bool false) w) (b : Nat) (l : List Value)
    (hm : a.eval m = .map (some b)) (hown : SetAt w P k b l) (key : Value) (kl : Lit) (hx : a.eval x = key) (hkey : keyOf P k key = some kl)
    (hK : ∀ q : Bool, (q = true ∧ key ∈ l) ∨ (q = false ∧ key ∉ l) → wpList P ops Q rest (a.put o.dst (.bool q)) w) :
    wpList P ops Q (o :: rest) a w := by
  refine wpList_plain hg fun K' hK' => ?_
  rcases set_look hown K ht hz hkey with ⟨h1, hrun⟩ | ⟨h1, hrun⟩
  · unfold Oper.wp
    simp [execOp, hop, hm, hx, hrun, Result.andThen]
    exact hK' _ _ (hK true (.inl ⟨rfl, h1⟩))
  · unfold Oper.wp
    simp [execOp, hop, hm, hx, hrun, Result.andThen]
    exact hK' _ _ (hK false (.inr ⟨rfl, h1⟩))
theorem wpList_update_set {P : Program} (w : World) {ops : Array Oper} {rest : List Oper} {o : Oper} {a : Act} {Q : Exit → Act → World → Prop}
    (hg : o.guard = none) (m x v : Operand) (t : TypeId) (hop : o.op = Op.mapUpdate t m x v)
    (k e : TypeId) (K : Keyed P k) (ht : P.underlying t = some (.map k e)) (b : Nat) (l : List Value)
    (hm : a.eval m = .map (some b)) (hown : SetAt w P k b l) (key : Value) (kl : Lit) (hx : a.eval x = key) (hv : a.eval v = .bool true) (hkey : keyOf P k key = some kl) (hne : key ∉ l)
    (hK : ∀ w', SetAt w' P k b (key :: l) → w.grownBy w' (some b) → wpList P ops Q rest (a.put o.dst undef) w') :
    wpList P ops Q (o :: rest) a w := by
  refine wpList_plain hg fun K' hK' => ?_
  obtain ⟨w', hrun, r1, r2⟩ := set_put hown K ht hkey hne
  unfold Oper.wp
  simp [execOp, hop, hm, hx, hv, hrun, Result.andThen]
  exact hK' _ _ (hK w' r1 r2)
end Go.Proofs.Ytjjmbldgemnhbaa
