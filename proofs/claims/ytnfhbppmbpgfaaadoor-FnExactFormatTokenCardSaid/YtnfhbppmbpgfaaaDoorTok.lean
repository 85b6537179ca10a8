/-
  Tokens: how one reads; toToken, szToken; IsKeyword, IsSymbol: the walks.
-/
import Derived.Test.YtnfhbppmbpgfaaaDoorFrame
import Derived.Test.YtnfhbppmbpgfaaaDoorPlain
import Derived.Test.YtnfhbppmbpgfaaaDoorTrod
namespace Go.Proofs.YtnfhbppmbpgfaaaDoor
open Go.ChangeShapes Go.WideShapes Go.ChangeAt Go.RowKit
set_option linter.unusedVariables false
set_option linter.unusedSimpArgs false

structure Tok where
  kind : Int
  n : Int
  at_ : Int
  text : ByteArray
def Tok.cells (d : Tok) : List Value := [.int .i64 d.kind, .int .i64 d.n, .int .i64 d.at_, .string d.text]
def Tok.fit (d : Tok) : Prop := Between64 d.kind ∧ Between64 d.n ∧ Between64 d.at_ ∧ d.text.size ≤ 9223372036854775807
def TokAt (w : World) (v : Value) (d : Tok) : Prop := v = .agg d.cells.toArray ∧ d.fit

section
variable {H : Type} {enc : TypeId × Value → H} {w : World} {sp : Nat → Bool} {held : Bool}
theorem tok_fields {t : TypeId} {fs : Array Field} {fuel : Nat} {cs : List Value} {x : DataW H × List MemPlace}
    (hu : Tryd.prog.underlying t = some (.struct fs)) (hone : Go.Deep.oneCellFields Tryd.prog fs = true) (hC : Tryd.prog.cellsOf t = fs.size) (h4 : fs.size = 4)
    (f0 : (fs[0]?).map Field.type = some 3) (f1 : (fs[1]?).map Field.type = some 3) (f2 : (fs[2]?).map Field.type = some 3) (f3 : (fs[3]?).map Field.type = some 9)
    (h : DataW.trod enc Tryd.prog w 0 sp held fuel t cs = some x) : ∃ d : Tok, cs = d.cells ∧ d.fit := by
  obtain ⟨m, _, hl, hf⟩ := struct_cells hu hone hC h
  rw [h4] at hl
  match cs, hl with
  | [c0, c1, c2, c3], _ =>
    obtain ⟨_, y0, e0, h0⟩ := hf 0 _ f0
    obtain ⟨_, y1, e1, h1⟩ := hf 1 _ f1
    obtain ⟨_, y2, e2, h2⟩ := hf 2 _ f2
    obtain ⟨_, y3, e3, h3⟩ := hf 3 _ f3
    simp only [List.getElem?_cons_zero, List.getElem?_cons_succ, Option.some.injEq] at e0 e1 e2 e3
    subst e0 e1 e2 e3
    obtain ⟨a, ea, _, wa⟩ := DataW.trod_int Tryd.underlying3 h0
    obtain ⟨b, eb, _, wb⟩ := DataW.trod_int Tryd.underlying3 h1
    obtain ⟨c, ec, _, wc⟩ := DataW.trod_int Tryd.underlying3 h2
    obtain ⟨s, es, _, ws⟩ := DataW.trod_string Tryd.underlying9 h3
    simp only [List.cons.injEq, and_true] at ea eb ec es
    subst ea eb ec es
    exact ⟨⟨a, b, c, s⟩, rfl, i64_of_wf wa, i64_of_wf wb, i64_of_wf wc, by simp only [maxLen] at ws; omega⟩
theorem lawsTok_of_trod {fuel : Nat} {c : Array Value} {x : DataW H × List MemPlace} (h : DataW.trod enc Tryd.prog w 0 sp held fuel 42 (Value.agg c).cells.toList = some x) : ∃ d : Tok, TokAt w (.agg c) d := by
  obtain ⟨d, e, hf⟩ := tok_fields Tryd.underlying42 (by kernel_rfl) (by kernel_rfl) rfl rfl rfl rfl rfl h
  refine ⟨d, ?_, hf⟩
  rw [← e]
  simp [Value.cells]
end

theorem szToken (v : Value) (d : Tok) (left : Int) (w : World) (h : TokAt w v d) (h0 : 0 ≤ left) (h1 : left ≤ 1048576) :
    Calls Tryd.prog 23 #[v, .int .i64 left] w fun e w' => e = .returned (.int .i64 (szR left d.text.size)) ∧ Later w w' := by
  obtain ⟨rfl, _, _, _, hs⟩ := h
  obtain ⟨k, n, a, t⟩ := d
  simp only [Tok.cells] at hs ⊢
  by_cases hl : left < (t.size : Int)
  · have HV : Hid (szR left t.size = -1) := szR_big hl
    have hn : left - t.size < 0 := by omega
    clear hl
    go_enter Tryd.func23, Tryd.ntmps23
    go_wp2
    go_ret
    exact ⟨ret_int HV.out.symm, (Later.rfl' _).alloc _⟩
  · have HV : Hid (szR left t.size = left - t.size) := szR_small (by omega)
    have hn : 0 ≤ left - t.size := by omega
    clear hl
    go_enter Tryd.func23, Tryd.ntmps23
    go_wp2
    go_ret
    exact ⟨ret_int HV.out.symm, (Later.rfl' _).alloc _⟩

theorem toToken (v : Value) (d : Tok) (w : World) (h : TokAt w v d) :
    Calls Tryd.prog 25 #[v] w fun e w' => e = .returned (.agg d.cells.toArray) ∧ Later w w' := by
  obtain ⟨rfl, _, _, _, hs⟩ := h
  obtain ⟨k, n, a, t⟩ := d
  simp only [Tok.cells] at hs ⊢
  go_enter Tryd.func25, Tryd.ntmps25
  go_wp2
  refine bodyPost_ret (v := .agg #[.int .i64 k, .int .i64 n, .int .i64 a, .string t]) (by simp [results, Tryd.results25, go_sem]) rfl ⟨rfl, (((Later.rfl' _).alloc _).alloc _).alloc _⟩

def isKind (c : Int) (d : Tok) (s : ByteArray) : Bool := decide (d.kind = c) && (d.text.toList == s.toList)



/-- The four cells of a struct that was laid in a variable. -/
theorem box4 {w w1 : World} {t : TypeId} {c0 c1 c2 c3 : Value} (hb : Later (w.alloc (.cells #[c0, c1, c2, c3] t)) w1) :
    w1.cell? ⟨w.heap.size, 0, none⟩ = some c0 ∧ w1.cell? ⟨w.heap.size, 1, none⟩ = some c1 ∧ w1.cell? ⟨w.heap.size, 2, none⟩ = some c2 ∧ w1.cell? ⟨w.heap.size, 3, none⟩ = some c3 := by
  have h : ∀ j, w1.cell? ⟨w.heap.size, j, none⟩ = (w.alloc (.cells #[c0, c1, c2, c3] t)).cell? ⟨w.heap.size, j, none⟩ := fun j => Below.cell hb (by simp)
  exact ⟨by rw [h]; simp, by rw [h]; simp, by rw [h]; simp, by rw [h]; simp⟩

end Go.Proofs.YtnfhbppmbpgfaaaDoor
