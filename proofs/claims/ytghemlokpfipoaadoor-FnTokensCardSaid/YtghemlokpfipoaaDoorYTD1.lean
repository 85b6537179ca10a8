/-
  Draws of tokens: l9Token: the walk; rows of tokens of the call's own.
-/
import Derived.Test.YtghemlokpfipoaaDoorYTK5
import Derived.Test.YtghemlokpfipoaaDoorYKQ
namespace Go.Proofs.YtghemlokpfipoaaDoor
open Go.ChangeShapes Go.WideShapes Go.ChangeAt Go.RowKit
set_option linter.unusedVariables false
set_option linter.unusedSimpArgs false
set_option maxRecDepth 100000

/-- Any number below n, n above 256. -/
theorem drawBig (n g : Nat) (hn : 256 < n) (hn2 : n ≤ 1048577) (W : World) (hc : CurAt W g) : Calls Tryd.prog 35 #[.pointer (some ⟨g, 0, none⟩), .int .i64 (n : Int)] W fun r w' => (∃ x : Nat, x < n ∧ r = .returned (.int .i64 (x : Int))) ∧ CurAt w' g ∧ Chg (onlyB g) W w' := by
  have HC := Lib.hid hc
  have hp : (256 : Int) < (n : Int) := by omega
  have hp2 : (n : Int) ≤ 1048577 := by omega
  clear hc
  go_enter Tryd.func35, Tryd.ntmps35
  go_wp2_with fail
  refine (drawByte g W HC.out).mono ?_; rintro e w1 ⟨⟨x, hx, rfl⟩, hcu, hch⟩
  have H1 := Lib.hid hcu; have G1 := Lib.hid hch
  clear hcu hch HC
  go_wp2_with fail
  refine (drawByte g _ H1.out).mono ?_; rintro e w2 ⟨⟨y, hy, rfl⟩, hcu, hch⟩
  have H2 := Lib.hid hcu; have G2 := Lib.hid (G1.out.trans hch)
  clear hcu hch H1 G1
  go_wp2_with fail
  refine (drawByte g _ H2.out).mono ?_; rintro e w3 ⟨⟨z, hz, rfl⟩, hcu, hch⟩
  have H3 := Lib.hid hcu; have G3 := Lib.hid (G2.out.trans hch)
  clear hcu hch H2 G2
  go_wp2_with fail
  refine (drawByte g _ H3.out).mono ?_; rintro e w4 ⟨⟨t, ht, rfl⟩, hcu, hch⟩
  have H4 := Lib.hid hcu; have G4 := Lib.hid (G3.out.trans hch)
  clear hcu hch H3 G3
  obtain ⟨s, hs⟩ : ∃ s : Nat, s = x * 16777216 + y * 65536 + z * 256 + t := ⟨_, rfl⟩
  have hse : (x : Int) * 16777216 + (y : Int) * 65536 + (z : Int) * 256 + (t : Int) = (s : Int) := by omega
  have ht1 : (s : Int).tmod (n : Int) = ((s % n : Nat) : Int) := rfl
  have ht2 : (s : Int) % (n : Int) = ((s % n : Nat) : Int) := rfl
  have hb : s % n < n := Nat.mod_lt _ (by omega)
  have HB := Lib.hid hb
  obtain ⟨q, hq⟩ : ∃ q, q = s % n := ⟨_, rfl⟩
  rw [← hq] at ht1 ht2 HB
  clear hb hq hs
  go_wp2_with fail
  go_ret
  exact ⟨⟨q, HB.out, rfl⟩, H4.out, G4.out⟩

/-- A drawn token. -/
def SmallT (g : Nat) (W w' : World) (r : Ending) : Prop := (∃ (t : Tk), r = .returned (.agg #[.int .i64 t.kind, .int .i64 t.n, .int .i64 t.at_, .string t.text]) ∧ (0 ≤ t.kind ∧ t.kind ≤ 4) ∧ (0 ≤ t.n ∧ t.n ≤ 1000000000) ∧ t.at_ = 0 ∧ t.text.size ≤ 100) ∧ CurAt w' g ∧ Chg (onlyB g) W w'
def tkNames : List ByteArray := [⟨#[97]⟩, ⟨#[120, 49]⟩, ⟨#[108, 101, 116]⟩, ⟨#[115, 117, 109]⟩, ⟨#[97, 98, 99, 100, 101, 102, 103, 104]⟩]
def tkNums : List Int := [0, 1, 12, 1000000000]
def tkSyms : List ByteArray := [⟨#[40]⟩, ⟨#[41]⟩, ⟨#[91]⟩, ⟨#[93]⟩, ⟨#[44]⟩, ⟨#[43]⟩, ⟨#[45]⟩, ⟨#[42]⟩, ⟨#[60]⟩, ⟨#[61, 61]⟩, ⟨#[61]⟩]
theorem tkNames_small : ∀ s ∈ tkNames, s.size ≤ 100 := by decide
theorem tkSyms_small : ∀ s ∈ tkSyms, s.size ≤ 100 := by decide
theorem tkNums_small : ∀ x ∈ tkNums, 0 ≤ x ∧ x ≤ 1000000000 := by decide
theorem chg_only {W w : World} {g : Nat} (h : Chg (freshB g W.heap.size) W w) : Chg (onlyB g) W w := ⟨h.os, h.tape, h.output, h.size, fun k hk hne => h.block k hk fun e => by
  rcases e with e | e
  · exact hne e
  · omega⟩
theorem drawn_fin {W w1 : World} {g : Nat} {o : Obj} (hcu : CurAt w1 g) (hch : Chg (onlyB g) (W.alloc o) w1) (hlt : g < W.heap.size) (vs : List Value) : CurAt (setFrom w1 W.heap.size 0 vs) g ∧ Chg (onlyB g) W (setFrom w1 W.heap.size 0 vs) := by
  have c := chg_setFrom (g := W.heap.size) vs w1 0
  exact ⟨hcu.chg c fun b hb h => by omega, chg_only (((((Later.rfl' W).alloc o).chg (freshB g W.heap.size)).trans (hch.more fun k hk => .inl hk)).trans (c.more fun k hk => .inr (by omega)))⟩
theorem box_tok {w : World} {g : Nat} {a0 a1 a2 a3 : Value} (h : Box w g [a0, a1, a2, a3]) : w.cell? ⟨g, 0, none⟩ = some a0 ∧ w.cell? ⟨g, 1, none⟩ = some a1 ∧ w.cell? ⟨g, 2, none⟩ = some a2 ∧ w.cell? ⟨g, 3, none⟩ = some a3 ∧
    w.frozen? ⟨g, 0, none⟩ = false ∧ w.frozen? ⟨g, 1, none⟩ = false ∧ w.frozen? ⟨g, 2, none⟩ = false ∧ w.frozen? ⟨g, 3, none⟩ = false :=
  ⟨h.cell rfl, h.cell rfl, h.cell rfl, h.cell rfl, h.free 0, h.free 1, h.free 2, h.free 3⟩
theorem box_onlyT {W w1 : World} {g : Nat} {cs : Array Value} {t : TypeId} (hch : Chg (onlyB g) (W.alloc (.cells cs t)) w1) (hlt : g < W.heap.size) : Box w1 W.heap.size cs.toList :=
  (box_alloc W cs t).chg hch fun h => by unfold onlyB at h; omega
theorem lo_ofT {g : Nat} {W w : World} {o : Obj} (h : Chg (onlyB g) (W.alloc o) w) : W.heap.size + 1 ≤ w.heap.size := by have := h.size; rw [World.size_alloc] at this; exact this

set_option maxHeartbeats 4000000 in
theorem drawToken (g : Nat) (W : World) (hc : CurAt W g) : Calls Tryd.prog 47 #[.pointer (some ⟨g, 0, none⟩)] W fun r w' => SmallT g W w' r := by
  have hlt := hc.lt
  have HC0 := Lib.hid (hc.later ((Later.rfl' W).alloc (.cells #[.int .i64 0, .int .i64 0, .int .i64 0, .string ⟨#[]⟩] 33)))
  clear hc
  go_enter Tryd.func47, Tryd.ntmps47
  go_wp2_with fail
  refine (drawBelow 4 g (by omega) (by omega) _ HC0.out).mono ?_; rintro e w1 ⟨⟨m, hm, rfl⟩, hcu, hch⟩
  have HCX := Lib.hid hcu; have HHX := Lib.hid hch
  clear hcu hch HC0
  have hm4 : m = 0 ∨ m = 1 ∨ m = 2 ∨ m = 3 := by omega
  clear hm
  rcases hm4 with rfl | rfl | rfl | rfl
  · go_wp2_with fail
    refine (drawPick g _ tkNames (by have := lo_ofT HHX.out; omega) (by decide) (by decide) _ (HCX.out.later ((Later.rfl' _).alloc _)) (box_alloc _ _ _)).mono ?_; rintro e w2 ⟨⟨s, hs, rfl⟩, hcu, hch⟩
    have HC := Lib.hid hcu; have HH := Lib.hid ((HHX.out.trans (((Later.rfl' _).alloc _).chg _)).trans hch); have HM := Lib.hid (tkNames_small s hs)
    clear hcu hch hs HCX HHX
    have hR := box_onlyT HH.out hlt
    obtain ⟨r0, r1, r2, r3, f0, f1, f2, f3⟩ := box_tok hR
    have hz := hR.lt
    clear hR
    go_wp2_with fail
    exact bodyPost_ret (v := .agg #[.int .i64 1, .int .i64 0, .int .i64 0, .string s]) (by simp [results, Tryd.results47, go_sem, r0, r1, r2, r3]) rfl ⟨⟨⟨1, 0, 0, s⟩, rfl, (show (0 : Int) ≤ 1 ∧ (1 : Int) ≤ 4 by decide), (show (0 : Int) ≤ 0 ∧ (0 : Int) ≤ 1000000000 by decide), rfl, HM.out⟩, drawn_fin HC.out HH.out hlt [.int .i64 1, .int .i64 0, .int .i64 0, .string s]⟩
  · go_wp2_with fail
    refine (drawPickInt g _ tkNums (by have := lo_ofT HHX.out; omega) (by decide) (by decide) _ (HCX.out.later ((Later.rfl' _).alloc _)) (box_alloc _ _ _)).mono ?_; rintro e w2 ⟨⟨x, hx, rfl⟩, hcu, hch⟩
    have HC := Lib.hid hcu; have HH := Lib.hid ((HHX.out.trans (((Later.rfl' _).alloc _).chg _)).trans hch); have HM := Lib.hid (tkNums_small x hx)
    clear hcu hch hx HCX HHX
    have hR := box_onlyT HH.out hlt
    obtain ⟨r0, r1, r2, r3, f0, f1, f2, f3⟩ := box_tok hR
    have hz := hR.lt
    clear hR
    go_wp2_with fail
    exact bodyPost_ret (v := .agg #[.int .i64 2, .int .i64 x, .int .i64 0, .string ⟨#[]⟩]) (by simp [results, Tryd.results47, go_sem, r0, r1, r2, r3]) rfl ⟨⟨⟨2, x, 0, ⟨#[]⟩⟩, rfl, (show (0 : Int) ≤ 2 ∧ (2 : Int) ≤ 4 by decide), HM.out, rfl, (show (⟨#[]⟩ : ByteArray).size ≤ 100 by decide)⟩, drawn_fin HC.out HH.out hlt [.int .i64 2, .int .i64 x, .int .i64 0, .string ⟨#[]⟩]⟩
  · go_wp2_with fail
    refine (drawText g _ HCX.out).mono ?_; rintro e w2 ⟨⟨s, hs, rfl⟩, hcu, hch⟩
    have HC := Lib.hid hcu; have HH := Lib.hid (HHX.out.trans hch); have HM := Lib.hid hs
    clear hcu hch hs HCX HHX
    have hR := box_onlyT HH.out hlt
    obtain ⟨r0, r1, r2, r3, f0, f1, f2, f3⟩ := box_tok hR
    have hz := hR.lt
    clear hR
    go_wp2_with fail
    exact bodyPost_ret (v := .agg #[.int .i64 3, .int .i64 0, .int .i64 0, .string s]) (by simp [results, Tryd.results47, go_sem, r0, r1, r2, r3]) rfl ⟨⟨⟨3, 0, 0, s⟩, rfl, (show (0 : Int) ≤ 3 ∧ (3 : Int) ≤ 4 by decide), (show (0 : Int) ≤ 0 ∧ (0 : Int) ≤ 1000000000 by decide), rfl, HM.out⟩, drawn_fin HC.out HH.out hlt [.int .i64 3, .int .i64 0, .int .i64 0, .string s]⟩
  · go_wp2_with fail
    refine (drawPick g _ tkSyms (by have := lo_ofT HHX.out; omega) (by decide) (by decide) _ (HCX.out.later ((Later.rfl' _).alloc _)) (box_alloc _ _ _)).mono ?_; rintro e w2 ⟨⟨s, hs, rfl⟩, hcu, hch⟩
    have HC := Lib.hid hcu; have HH := Lib.hid ((HHX.out.trans (((Later.rfl' _).alloc _).chg _)).trans hch); have HM := Lib.hid (tkSyms_small s hs)
    clear hcu hch hs HCX HHX
    have hR := box_onlyT HH.out hlt
    obtain ⟨r0, r1, r2, r3, f0, f1, f2, f3⟩ := box_tok hR
    have hz := hR.lt
    clear hR
    go_wp2_with fail
    exact bodyPost_ret (v := .agg #[.int .i64 4, .int .i64 0, .int .i64 0, .string s]) (by simp [results, Tryd.results47, go_sem, r0, r1, r2, r3]) rfl ⟨⟨⟨4, 0, 0, s⟩, rfl, (show (0 : Int) ≤ 4 ∧ (4 : Int) ≤ 4 by decide), (show (0 : Int) ≤ 0 ∧ (0 : Int) ≤ 1000000000 by decide), rfl, HM.out⟩, drawn_fin HC.out HH.out hlt [.int .i64 4, .int .i64 0, .int .i64 0, .string s]⟩


/-- A row of tokens of the call's own, written out. -/
def cellsT (t : Tk) : List Value := [.int .i64 t.kind, .int .i64 t.n, .int .i64 t.at_, .string t.text]
def SmallTk (t : Tk) : Prop := (0 ≤ t.kind ∧ t.kind ≤ 4) ∧ (0 ≤ t.n ∧ t.n ≤ 1000000000) ∧ t.at_ = 0 ∧ t.text.size ≤ 100
def TokRow (lo : Nat) (w : World) (l : List Tk) (v : Value) : Prop := w.ownsRow lo 33 4 v l.length (l.flatMap cellsT) ∧ ∀ t ∈ l, SmallTk t
theorem cellsT_len (l : List Tk) : (l.flatMap cellsT).length = l.length * 4 := by
  induction l with
  | nil => rfl
  | cons a l ih => rw [List.flatMap_cons, List.length_append, ih, List.length_cons, show (cellsT a).length = 4 from rfl]; omega
theorem TokRow.chg {lo : Nat} {w w' : World} {l : List Tk} {v : Value} {S : Nat → Prop} (h : TokRow lo w l v) (c : Chg S w w') (hS : ∀ b, lo ≤ b → ¬ S b) : TokRow lo w' l v :=
  ⟨row_block h.1 fun g hg => c.block g (h.1.lt g hg).2 (hS g (h.1.lt g hg).1), h.2⟩
theorem TokRow.later {lo : Nat} {w w' : World} {l : List Tk} {v : Value} (h : TokRow lo w l v) (hb : Later w w') : TokRow lo w' l v := h.chg (hb.chg fun _ => False) fun _ _ h => h
theorem owns_smallTk (w : World) (S : Nat → Prop) {t : Tk} (h : SmallTk t) : Owns w S (encT t) (cellsT t) := by
  obtain ⟨h1, h2, h3, h4⟩ := h
  exact Owns.leaf' (.int _ _ (by unfold Between64; omega)) (Owns.leaf' (.int _ _ (by unfold Between64; omega)) (Owns.leaf' (.int _ _ (by unfold Between64; omega)) (Owns.leaf' (.str _ _ (by omega)) (owns_nil _ _))))
theorem tok_cell {t : Tk} (h : SmallTk t) (w : World) : ∀ (j : Nat) d u, (encT t)[j]? = some d → (cellsT t)[j]? = some u → At w anyB d u := by
  obtain ⟨h1, h2, h3, h4⟩ := h
  intro j d u hd hu
  match j, hd, hu with
  | 0, hd, hu => simp [encT, cellsT] at hd hu; subst hd hu; exact .int _ (by unfold Between64; omega)
  | 1, hd, hu => simp [encT, cellsT] at hd hu; subst hd hu; exact .int _ (by unfold Between64; omega)
  | 2, hd, hu => simp [encT, cellsT] at hd hu; subst hd hu; exact .int _ (by unfold Between64; omega)
  | 3, hd, hu => simp [encT, cellsT] at hd hu; subst hd hu; exact .str _ (by omega)
theorem tok_cells (w : World) : ∀ (l : List Tk), (∀ t ∈ l, SmallTk t) → ∀ (p : Nat) d u, (l.flatMap encT)[p]? = some d → (l.flatMap cellsT)[p]? = some u → At w anyB d u
  | [], _, p, d, u, hd, _ => by simp at hd
  | t :: l, h, p, d, u, hd, hu => by
    rw [List.flatMap_cons] at hd hu
    by_cases hp : p < 4
    · rw [List.getElem?_append_left (by rw [encT_len]; exact hp)] at hd
      rw [List.getElem?_append_left (show p < (cellsT t).length from hp)] at hu
      exact tok_cell (h t List.mem_cons_self) w p d u hd hu
    · rw [List.getElem?_append_right (by rw [encT_len]; omega), encT_len] at hd
      rw [List.getElem?_append_right (show (cellsT t).length ≤ p by show 4 ≤ p; omega), show (cellsT t).length = 4 from rfl] at hu
      exact tok_cells w l (fun t ht => h t (List.mem_cons_of_mem _ ht)) _ d u hd hu
theorem TokRow.sl {lo : Nat} {w : World} {l : List Tk} {v : Value} (h : TokRow lo w l v) : SlAt w anyB 4 encT l v := by
  obtain ⟨A, c, rfl, h1, h2, h3⟩ := row_shape h.1
  refine At.make (flat_len encT_len l) h1 h2 fun hn => ?_
  have hn0 : 0 < l.length := by
    rcases Nat.eq_zero_or_pos l.length with e | e
    · rw [List.length_eq_zero_iff] at e; subst e; exact absurd rfl hn
    · exact e
  obtain ⟨g, rfl, hg⟩ := h3 hn0
  refine ⟨g, 0, rfl, (h.1.lt g hg).2, trivial, fun i d hd => ?_⟩
  have hi : i < l.length * 4 := by have := (List.getElem?_eq_some_iff.1 hd).1; rw [flat_len encT_len] at this; exact this
  have hu : (l.flatMap cellsT)[i]? = some ((l.flatMap cellsT)[i]'(by rw [cellsT_len]; exact hi)) := List.getElem?_eq_getElem _
  exact ⟨_, by rw [Nat.zero_add, h.1.cellAt i hi, hu], tok_cells w l h.2 i d _ hd hu⟩
end Go.Proofs.YtghemlokpfipoaaDoor
