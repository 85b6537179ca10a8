/-
  Tokens: how one reads; toToken, szToken; IsKeyword, IsSymbol: the walks.
-/
import Derived.Test.YtbpalgildbodkaaFrame
import Derived.Test.YtbpalgildbodkaaPlain
import Derived.Test.YtbpalgildbodkaaTrod
namespace Go.Proofs.Ytbpalgildbodkaa
open Go.ChangeShapes Go.WideShapes Go.ChangeAt Go.RowKit
set_option linter.unusedVariables false
set_option linter.unusedSimpArgs false

structure Tok where
  kind : Int
  n : Int
  at_ : Int
  text : ByteArray
def Tok.cells (d : Tok) : List Value := [.int .i64 d.kind, .int .i64 d.n, .int .i64 d.at_, .string d.text]
def Tok.fit (d : Tok) : Prop := Between64 d.kind ∧ Between64 d.n ∧ Between64 d.at_ ∧ d.text.size ≤ 9223372036854775807
def TokAt (w : World) (v : Value) (d : Tok) : Prop := v = .agg d.cells.toArray ∧ d.fit

section
variable {H : Type} {enc : TypeId × Value → H} {w : World} {sp : Nat → Bool} {held : Bool}
theorem tok_fields {t : TypeId} {fs : Array Field} {fuel : Nat} {cs : List Value} {x : DataW H × List MemPlace}
    (hu : Try.prog.underlying t = some (.struct fs)) (hone : Go.Deep.oneCellFields Try.prog fs = true) (hC : Try.prog.cellsOf t = fs.size) (h4 : fs.size = 4)
    (f0 : (fs[0]?).map Field.type = some 3) (f1 : (fs[1]?).map Field.type = some 3) (f2 : (fs[2]?).map Field.type = some 3) (f3 : (fs[3]?).map Field.type = some 9)
    (h : DataW.trod enc Try.prog w 0 sp held fuel t cs = some x) : ∃ d : Tok, cs = d.cells ∧ d.fit := by
  obtain ⟨m, _, hl, hf⟩ := struct_cells hu hone hC h
  rw [h4] at hl
  match cs, hl with
  | [c0, c1, c2, c3], _ =>
    obtain ⟨_, y0, e0, h0⟩ := hf 0 _ f0
    obtain ⟨_, y1, e1, h1⟩ := hf 1 _ f1
    obtain ⟨_, y2, e2, h2⟩ := hf 2 _ f2
    obtain ⟨_, y3, e3, h3⟩ := hf 3 _ f3
    simp only [List.getElem?_cons_zero, List.getElem?_cons_succ, Option.some.injEq] at e0 e1 e2 e3
    subst e0 e1 e2 e3
    obtain ⟨a, ea, _, wa⟩ := DataW.trod_int Try.underlying3 h0
    obtain ⟨b, eb, _, wb⟩ := DataW.trod_int Try.underlying3 h1
    obtain ⟨c, ec, _, wc⟩ := DataW.trod_int Try.underlying3 h2
    obtain ⟨s, es, _, ws⟩ := DataW.trod_string Try.underlying9 h3
    simp only [List.cons.injEq, and_true] at ea eb ec es
    subst ea eb ec es
    exact ⟨⟨a, b, c, s⟩, rfl, i64_of_wf wa, i64_of_wf wb, i64_of_wf wc, by simp only [maxLen] at ws; omega⟩
theorem lawsTok_of_trod {fuel : Nat} {c : Array Value} {x : DataW H × List MemPlace} (h : DataW.trod enc Try.prog w 0 sp held fuel 27 (Value.agg c).cells.toList = some x) : ∃ d : Tok, TokAt w (.agg c) d := by
  obtain ⟨d, e, hf⟩ := tok_fields Try.underlying27 (by kernel_rfl) (by kernel_rfl) rfl rfl rfl rfl rfl h
  refine ⟨d, ?_, hf⟩
  rw [← e]
  simp [Value.cells]
end

theorem szToken (v : Value) (d : Tok) (left : Int) (w : World) (h : TokAt w v d) (h0 : 0 ≤ left) (h1 : left ≤ 1048576) :
    Calls Try.prog 17 #[v, .int .i64 left] w fun e w' => e = .returned (.int .i64 (szR left d.text.size)) ∧ Later w w' := by
  obtain ⟨rfl, _, _, _, hs⟩ := h
  obtain ⟨k, n, a, t⟩ := d
  simp only [Tok.cells] at hs ⊢
  by_cases hl : left < (t.size : Int)
  · have HV : Hid (szR left t.size = -1) := szR_big hl
    have hn : left - t.size < 0 := by omega
    clear hl
    go_enter Try.func17, Try.ntmps17
    go_wp2
    go_ret
    exact ⟨ret_int HV.out.symm, (Later.rfl' _).alloc _⟩
  · have HV : Hid (szR left t.size = left - t.size) := szR_small (by omega)
    have hn : 0 ≤ left - t.size := by omega
    clear hl
    go_enter Try.func17, Try.ntmps17
    go_wp2
    go_ret
    exact ⟨ret_int HV.out.symm, (Later.rfl' _).alloc _⟩

theorem toToken (v : Value) (d : Tok) (w : World) (h : TokAt w v d) :
    Calls Try.prog 19 #[v] w fun e w' => e = .returned (.agg d.cells.toArray) ∧ Later w w' := by
  obtain ⟨rfl, _, _, _, hs⟩ := h
  obtain ⟨k, n, a, t⟩ := d
  simp only [Tok.cells] at hs ⊢
  go_enter Try.func19, Try.ntmps19
  go_wp2
  refine bodyPost_ret (v := .agg #[.int .i64 k, .int .i64 n, .int .i64 a, .string t]) (by simp [results, Try.results19, go_sem]) rfl ⟨rfl, (((Later.rfl' _).alloc _).alloc _).alloc _⟩

def isKind (c : Int) (d : Tok) (s : ByteArray) : Bool := decide (d.kind = c) && (d.text.toList == s.toList)


theorem specIsKeyword (d : Tok) (s : ByteArray) (w : World) : Calls Try.prog 18 #[.agg d.cells.toArray, .string s] w fun e w' => e = .returned (.bool (isKind 1 d s)) ∧ Later w w' := by
  obtain ⟨k, n, a, t⟩ := d
  simp only [Tok.cells]
  by_cases hk : k = 1
  · subst hk
    have HV : Hid (isKind 1 ⟨1, n, a, t⟩ s = (t.toList == s.toList)) := by unfold Hid; simp [isKind]
    go_enter Try.func18, Try.ntmps18
    go_wp2
    go_ret
    exact ⟨ret_bool HV.out.symm, (Later.rfl' _).alloc _⟩
  · have HV : Hid (isKind 1 ⟨k, n, a, t⟩ s = false) := by unfold Hid; simp [isKind, hk]
    have hk' : (k == 1) = false := by simpa using hk
    clear hk
    go_enter Try.func18, Try.ntmps18
    go_wp2
    go_ret
    exact ⟨ret_bool HV.out.symm, (Later.rfl' _).alloc _⟩

theorem specIsSymbol (d : Tok) (s : ByteArray) (w : World) : Calls Try.prog 21 #[.agg d.cells.toArray, .string s] w fun e w' => e = .returned (.bool (isKind 4 d s)) ∧ Later w w' := by
  obtain ⟨k, n, a, t⟩ := d
  simp only [Tok.cells]
  by_cases hk : k = 4
  · subst hk
    have HV : Hid (isKind 4 ⟨4, n, a, t⟩ s = (t.toList == s.toList)) := by unfold Hid; simp [isKind]
    go_enter Try.func21, Try.ntmps21
    go_wp2
    go_ret
    exact ⟨ret_bool HV.out.symm, (Later.rfl' _).alloc _⟩
  · have HV : Hid (isKind 4 ⟨k, n, a, t⟩ s = false) := by unfold Hid; simp [isKind, hk]
    have hk' : (k == 4) = false := by simpa using hk
    clear hk
    go_enter Try.func21, Try.ntmps21
    go_wp2
    go_ret
    exact ⟨ret_bool HV.out.symm, (Later.rfl' _).alloc _⟩

theorem implIsKeyword (d : Tok) (s : ByteArray) (w : World) : Calls Try.prog 20 #[.agg d.cells.toArray, .string s] w fun e w' => e = .returned (.bool (isKind 1 d s)) ∧ Later w w' := by
  obtain ⟨k, n, a, t⟩ := d
  simp only [Tok.cells]
  by_cases hk : k = 1
  · subst hk
    have HV : Hid (isKind 1 ⟨1, n, a, t⟩ s = (t.toList == s.toList)) := by unfold Hid; simp [isKind]
    go_enter Try.func20, Try.ntmps20
    go_wp2
    go_ret
    exact ⟨ret_bool HV.out.symm, (Later.rfl' _).alloc _⟩
  · have HV : Hid (isKind 1 ⟨k, n, a, t⟩ s = false) := by unfold Hid; simp [isKind, hk]
    have hk' : (k == 1) = false := by simpa using hk
    clear hk
    go_enter Try.func20, Try.ntmps20
    go_wp2
    go_ret
    exact ⟨ret_bool HV.out.symm, (Later.rfl' _).alloc _⟩

theorem implIsSymbol (d : Tok) (s : ByteArray) (w : World) : Calls Try.prog 22 #[.agg d.cells.toArray, .string s] w fun e w' => e = .returned (.bool (isKind 4 d s)) ∧ Later w w' := by
  obtain ⟨k, n, a, t⟩ := d
  simp only [Tok.cells]
  by_cases hk : k = 4
  · subst hk
    have HV : Hid (isKind 4 ⟨4, n, a, t⟩ s = (t.toList == s.toList)) := by unfold Hid; simp [isKind]
    go_enter Try.func22, Try.ntmps22
    go_wp2
    go_ret
    exact ⟨ret_bool HV.out.symm, (Later.rfl' _).alloc _⟩
  · have HV : Hid (isKind 4 ⟨k, n, a, t⟩ s = false) := by unfold Hid; simp [isKind, hk]
    have hk' : (k == 4) = false := by simpa using hk
    clear hk
    go_enter Try.func22, Try.ntmps22
    go_wp2
    go_ret
    exact ⟨ret_bool HV.out.symm, (Later.rfl' _).alloc _⟩


/-- The four cells of a struct that was laid in a variable. -/
theorem box4 {w w1 : World} {t : TypeId} {c0 c1 c2 c3 : Value} (hb : Later (w.alloc (.cells #[c0, c1, c2, c3] t)) w1) :
    w1.cell? ⟨w.heap.size, 0, none⟩ = some c0 ∧ w1.cell? ⟨w.heap.size, 1, none⟩ = some c1 ∧ w1.cell? ⟨w.heap.size, 2, none⟩ = some c2 ∧ w1.cell? ⟨w.heap.size, 3, none⟩ = some c3 := by
  have h : ∀ j, w1.cell? ⟨w.heap.size, j, none⟩ = (w.alloc (.cells #[c0, c1, c2, c3] t)).cell? ⟨w.heap.size, j, none⟩ := fun j => Below.cell hb (by simp)
  exact ⟨by rw [h]; simp, by rw [h]; simp, by rw [h]; simp, by rw [h]; simp⟩


theorem walk_FnExactIsKeyword (v : Value) (d : Tok) (s : ByteArray) (w : World) (h : TokAt w v d) (hs : s.size ≤ maxLen) :
    Calls Try.prog 6 #[v, .string s] w fun e w' => e = .returned (.bool true) ∧ Later w w' := by
  by_cases hb : 1048576 < s.size
  · obtain ⟨rfl, _⟩ := h
    simp only [Tok.cells]
    go_enter Try.func6, Try.ntmps6
    go_wp2_with fail
    go_ret
    exact ⟨rfl, (Later.rfl' _).alloc _⟩
  have C1 := fun W => szToken _ d 1048576 W ⟨rfl, h.2⟩ (by omega) (by omega)
  by_cases hc : d.text.size ≤ 1048576
  · have hsz : szR 1048576 d.text.size = 1048576 - d.text.size := szR_small (by omega)
    have hsz0 : (0 : Int) ≤ 1048576 - (d.text.size : Int) := by omega
    have C2 := fun W => toToken _ d W ⟨rfl, h.2⟩
    have C3 := fun W => specIsKeyword d s W
    have C4 := fun W => implIsKeyword d s W
    rw [hsz] at C1
    obtain ⟨rfl, _⟩ := h
    obtain ⟨q, hq⟩ : ∃ q, q = isKind 1 d s := ⟨_, rfl⟩
    rw [← hq] at C3 C4
    clear hsz hc hq
    simp only [Tok.cells] at C1 C2 C3 C4 ⊢
    have HC1 := Lib.hid C1; clear C1
    have HC2 := Lib.hid C2; clear C2
    have HC3 := Lib.hid C3; clear C3
    have HC4 := Lib.hid C4; clear C4
    go_enter Try.func6, Try.ntmps6
    go_wp2_with fail
    refine (HC1.out _).mono ?_; rintro e w1 ⟨rfl, hb1⟩
    obtain ⟨a0, a1, a2, a3⟩ := box4 hb1
    go_wp2_with fail
    refine (HC2.out _).mono ?_; rintro e w2 ⟨rfl, hb2⟩
    go_wp2_with fail
    refine (HC3.out _).mono ?_; rintro e w3 ⟨rfl, hb3⟩
    clear a0 a1 a2 a3
    obtain ⟨a0, a1, a2, a3⟩ := box4 (hb1.trans (hb2.trans hb3))
    go_wp2_with fail
    refine (HC2.out _).mono ?_; rintro e w4 ⟨rfl, hb4⟩
    go_wp2_with fail
    refine (HC4.out _).mono ?_; rintro e w5 ⟨rfl, hb5⟩
    go_wp2_with fail
    go_ret
    exact ⟨rfl, ((Later.rfl' _).alloc _).trans (hb1.trans (hb2.trans (hb3.trans (hb4.trans hb5))))⟩
  · have hsz : szR 1048576 d.text.size = -1 := szR_big (by omega)
    rw [hsz] at C1
    obtain ⟨rfl, _⟩ := h
    clear hsz hc
    simp only [Tok.cells] at C1 ⊢
    have HC1 := Lib.hid C1; clear C1
    go_enter Try.func6, Try.ntmps6
    go_wp2_with fail
    refine (HC1.out _).mono ?_; rintro e w1 ⟨rfl, hb1⟩
    go_wp2_with fail
    go_ret
    exact ⟨rfl, ((Later.rfl' _).alloc _).trans hb1⟩

theorem walk_FnExactIsSymbol (v : Value) (d : Tok) (s : ByteArray) (w : World) (h : TokAt w v d) (hs : s.size ≤ maxLen) :
    Calls Try.prog 7 #[v, .string s] w fun e w' => e = .returned (.bool true) ∧ Later w w' := by
  by_cases hb : 1048576 < s.size
  · obtain ⟨rfl, _⟩ := h
    simp only [Tok.cells]
    go_enter Try.func7, Try.ntmps7
    go_wp2_with fail
    go_ret
    exact ⟨rfl, (Later.rfl' _).alloc _⟩
  have C1 := fun W => szToken _ d 1048576 W ⟨rfl, h.2⟩ (by omega) (by omega)
  by_cases hc : d.text.size ≤ 1048576
  · have hsz : szR 1048576 d.text.size = 1048576 - d.text.size := szR_small (by omega)
    have hsz0 : (0 : Int) ≤ 1048576 - (d.text.size : Int) := by omega
    have C2 := fun W => toToken _ d W ⟨rfl, h.2⟩
    have C3 := fun W => specIsSymbol d s W
    have C4 := fun W => implIsSymbol d s W
    rw [hsz] at C1
    obtain ⟨rfl, _⟩ := h
    obtain ⟨q, hq⟩ : ∃ q, q = isKind 4 d s := ⟨_, rfl⟩
    rw [← hq] at C3 C4
    clear hsz hc hq
    simp only [Tok.cells] at C1 C2 C3 C4 ⊢
    have HC1 := Lib.hid C1; clear C1
    have HC2 := Lib.hid C2; clear C2
    have HC3 := Lib.hid C3; clear C3
    have HC4 := Lib.hid C4; clear C4
    go_enter Try.func7, Try.ntmps7
    go_wp2_with fail
    refine (HC1.out _).mono ?_; rintro e w1 ⟨rfl, hb1⟩
    obtain ⟨a0, a1, a2, a3⟩ := box4 hb1
    go_wp2_with fail
    refine (HC2.out _).mono ?_; rintro e w2 ⟨rfl, hb2⟩
    go_wp2_with fail
    refine (HC3.out _).mono ?_; rintro e w3 ⟨rfl, hb3⟩
    clear a0 a1 a2 a3
    obtain ⟨a0, a1, a2, a3⟩ := box4 (hb1.trans (hb2.trans hb3))
    go_wp2_with fail
    refine (HC2.out _).mono ?_; rintro e w4 ⟨rfl, hb4⟩
    go_wp2_with fail
    refine (HC4.out _).mono ?_; rintro e w5 ⟨rfl, hb5⟩
    go_wp2_with fail
    go_ret
    exact ⟨rfl, ((Later.rfl' _).alloc _).trans (hb1.trans (hb2.trans (hb3.trans (hb4.trans hb5))))⟩
  · have hsz : szR 1048576 d.text.size = -1 := szR_big (by omega)
    rw [hsz] at C1
    obtain ⟨rfl, _⟩ := h
    clear hsz hc
    simp only [Tok.cells] at C1 ⊢
    have HC1 := Lib.hid C1; clear C1
    go_enter Try.func7, Try.ntmps7
    go_wp2_with fail
    refine (HC1.out _).mono ?_; rintro e w1 ⟨rfl, hb1⟩
    go_wp2_with fail
    go_ret
    exact ⟨rfl, ((Later.rfl' _).alloc _).trans hb1⟩
end Go.Proofs.Ytbpalgildbodkaa
