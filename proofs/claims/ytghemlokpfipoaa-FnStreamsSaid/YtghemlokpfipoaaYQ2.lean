/-
  LengthOf: the walks.
-/
import Derived.Test.YtghemlokpfipoaaYQ1
namespace Go.Proofs.Ytghemlokpfipoaa
open Go.ChangeShapes Go.WideShapes Go.ChangeAt Go.RowKit
set_option linter.unusedVariables false
set_option linter.unusedSimpArgs false
set_option maxRecDepth 100000

def Vl.text : Vl → ByteArray | .mk _ _ _ t _ _ _ => t
theorem one_sl {w : World} {S : Nat → Prop} {d : Vl} {cs : List Value} {g : Nat} (h : Ats w S (encV d) cs) (B : Box w g cs) : SlAt w anyB 7 encV [d] (.slice (some ⟨g, 0, none⟩) 1 1) := by
  have e : [d].flatMap encV = encV d := by simp
  refine At.make (by rw [flat_len encV_len]) (Nat.le_refl _) (by simp) fun _ => ⟨g, 0, rfl, B.lt, trivial, fun i dd hd => ?_⟩
  rw [e] at hd
  obtain ⟨c, hc, ha⟩ := h.at_ hd
  exact ⟨c, by rw [Nat.zero_add]; exact B.cell hc, ha.any⟩
theorem cells_one {w : World} {cs ys : List Value} {g j : Nat} (h7 : cs.length = 7) (B : Box w g cs) (hj : j = 0) (h : CellsAt w (.slice (some ⟨g, 0, none⟩) 1 1) (j * 7) ys) : ys = cs := by
  subst hj
  obtain ⟨b, off, m, c, e, hl, hc⟩ := h
  simp only [Value.slice.injEq, Option.some.injEq, Addr.mk.injEq, and_true] at e
  obtain ⟨⟨rfl, rfl⟩, _⟩ := e
  refine List.ext_getElem? fun i => ?_
  by_cases hi : i < 7
  · have h1 := hc i hi
    have h2 : cs[i]? = some (cs[i]'(by omega)) := List.getElem?_eq_getElem _
    have h3 := B.cell h2
    simp only [Nat.zero_mul, Nat.zero_add] at h1
    rw [← h1, h2]
    exact h3
  · rw [List.getElem?_eq_none (by omega), List.getElem?_eq_none (by omega)]
/-- An answer without slices, or the argument itself, which has none. -/
def Al (d K : Vl) (cs cs' : List Value) : Prop :=
  (∃ k n s t, K = leafD k n s t ∧ Between64 k ∧ Between64 n ∧ Between64 s ∧ t.size ≤ 9223372036854775807 ∧ cs' = [.int .i64 k, .int .i64 n, .int .i64 s, .string t, .slice none 0 0, .slice none 0 0, .slice none 0 0]) ∨
  (cs' = cs ∧ K = d ∧ ∃ k n s t, d = leafD k n s t)
theorem al_owns {w : World} {S : Nat → Prop} {d K : Vl} {cs cs' : List Value} (h : Al d K cs cs') (o : Owns w S (encV d) cs) : Owns w S (encV K) cs' := by
  rcases h with ⟨k, n, s, t, rfl, h1, h2, h3, h4, rfl⟩ | ⟨rfl, rfl, _⟩
  · exact owns_leafV w S h1 h2 h3 h4
  · exact o
theorem al_marks {w : World} {S : Nat → Prop} {d K : Vl} {m : Nat} {cs cs' : List Value} (h : Al d K cs cs') (o : Owns w S (d.topM m) cs) : Owns w S (encV K) cs' := by
  rcases h with ⟨k, n, s, t, rfl, h1, h2, h3, h4, rfl⟩ | ⟨rfl, rfl, k, n, s, t, rfl⟩
  · exact owns_leafV w S h1 h2 h3 h4
  · exact o
def lenA (E : Option Int) (k ln tn : Int) : Vl := match E with | some n => leafD 6 n 0 ⟨#[]⟩ | none => if k = 3 then leafD 1 ln 0 ⟨#[]⟩ else if k = 2 then leafD 1 tn 0 ⟨#[]⟩ else leafD 6 4 0 ⟨#[]⟩
def lenD (d : Vl) : Vl := lenA (errOf d) d.kind (d.list.length : Int) (d.text.size : Int)
theorem first_one (d : Vl) : firstE [d] = errOf d := by
  unfold firstE
  rw [List.findSome?_cons]
  cases errOf d <;> rfl



end Go.Proofs.Ytghemlokpfipoaa
