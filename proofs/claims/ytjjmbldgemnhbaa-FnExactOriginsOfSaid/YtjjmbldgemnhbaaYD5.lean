/-
  Values: copies: toRow, toRowS, toValue, toValueS.
-/
import Derived.Test.YtjjmbldgemnhbaaYD4
namespace Go.Proofs.Ytjjmbldgemnhbaa
open Go.ChangeShapes Go.WideShapes Go.ChangeAt Go.RowKit
set_option linter.unusedVariables false
set_option linter.unusedSimpArgs false

/-- A variable of the call's own, cell by cell. -/
def Box (w : World) (g : Nat) (xs : List Value) : Prop := ∃ e, w.ownsRow 0 e xs.length (.slice (some ⟨g, 0, none⟩) 1 1) 1 xs
theorem box_alloc (w : World) (cs : Array Value) (t : TypeId) : Box (w.alloc (.cells cs t)) w.heap.size cs.toList :=
  ⟨t, by simp, .inr ⟨w.heap.size, 1, cs, rfl, Nat.zero_le _, heap_alloc_new w _, Nat.le_refl _, by simp only [maxLen]; omega, by simp, by simp [List.take_of_length_le]⟩⟩
theorem Box.later {w w' : World} {g : Nat} {xs : List Value} (h : Box w g xs) (hb : Later w w') : Box w' g xs := by
  obtain ⟨e, h⟩ := h
  exact ⟨e, own_later h hb⟩
theorem Box.chg {w w' : World} {g : Nat} {xs : List Value} {S : Nat → Prop} (h : Box w g xs) (c : Chg S w w') (hn : ¬ S g) : Box w' g xs := by
  obtain ⟨e, h⟩ := h
  refine ⟨e, row_block h fun g' hg' => ?_⟩
  have hl := (h.lt g' hg').2
  simp only [Value.ownBlock, Option.some.injEq] at hg'
  subst hg'
  exact c.block _ hl hn
theorem Box.cell {w : World} {g : Nat} {xs : List Value} (h : Box w g xs) {j : Nat} {u : Value} (hu : xs[j]? = some u) : w.cell? ⟨g, j, none⟩ = some u := by
  obtain ⟨e, h⟩ := h
  rw [h.cellAt j (by have := (List.getElem?_eq_some_iff.1 hu).1; omega), hu]
theorem Box.free {w : World} {g : Nat} {xs : List Value} (h : Box w g xs) (j : Nat) : w.frozen? ⟨g, j, none⟩ = false := by
  obtain ⟨e, h⟩ := h
  exact h.frozenAt j
theorem Box.set {w : World} {g : Nat} {xs : List Value} (h : Box w g xs) (j : Nat) (u : Value) : Box (w.setCell ⟨g, j, none⟩ u) g (xs.set j u) := by
  obtain ⟨e, h⟩ := h
  refine ⟨e, ?_⟩
  rw [List.length_set]
  exact (h.stored j u).1
theorem Box.other {w : World} {g : Nat} {xs : List Value} (h : Box w g xs) {g' : Nat} (j : Nat) (u : Value) (hn : g ≠ g') : Box (w.setCell ⟨g', j, none⟩ u) g xs :=
  h.chg (S := fun b => b = g') ((Chg.rfl' _ w).set rfl) hn
theorem Box.lt {w : World} {g : Nat} {xs : List Value} (h : Box w g xs) : g < w.heap.size := by
  obtain ⟨e, h⟩ := h
  exact (h.lt g rfl).2

theorem owns_nil (w : World) (S : Nat → Prop) : Owns w S [] [] := ⟨rfl, noB, fun _ _ h => False.elim h, fun _ _ _ _ h => False.elim h, fun i d u h => by simp at h⟩
theorem Owns.cons {w : World} {S T U : Nat → Prop} {d : Dt} {c : Value} {ds : List Dt} {cs : List Value} (h : Own w T d c) (t : Owns w S ds cs) (hT : ∀ b, T b → U b) (hS : ∀ b, S b → U b) (hd : ∀ b, T b → S b → False) : Owns w U (d :: ds) (c :: cs) := by
  obtain ⟨hl, F, h1, h2, h3⟩ := t
  refine ⟨by simp [hl], fun i => match i with | 0 => T | i + 1 => F i, fun i b hb => ?_, fun i j hij b hi hj => ?_, fun i d' u hd' hu => ?_⟩
  · match i with
    | 0 => exact hT b hb
    | i + 1 => exact hS b (h1 i b hb)
  · match i, j with
    | 0, 0 => exact hij rfl
    | 0, j + 1 => exact hd b hi (h1 j b hj)
    | i + 1, 0 => exact hd b hj (h1 i b hi)
    | i + 1, j + 1 => exact h2 i j (by omega) b hi hj
  · match i with
    | 0 =>
      simp at hd' hu
      subst hd' hu
      exact h
    | i + 1 => exact h3 i d' u (by simpa using hd') (by simpa using hu)
theorem Owns.leaf {w : World} {S U : Nat → Prop} {d : Dt} {c : Value} {ds : List Dt} {cs : List Value} (h : Own w (fun _ => False) d c) (t : Owns w S ds cs) (hS : ∀ b, S b → U b) : Owns w U (d :: ds) (c :: cs) :=
  Owns.cons h t (fun _ h => False.elim h) hS (fun _ h _ => h)

theorem Owns.leaf' {w : World} {S : Nat → Prop} {d : Dt} {c : Value} {ds : List Dt} {cs : List Value} (h : Own w (fun _ => False) d c) (t : Owns w S ds cs) : Owns w S (d :: ds) (c :: cs) :=
  Owns.leaf h t fun _ h => h
theorem box3 {W w1 : World} {a b c : Array Value} {t u x : TypeId} (hb : Later (((W.alloc (.cells a t)).alloc (.cells b u)).alloc (.cells c x)) w1) :
    Box w1 W.heap.size a.toList ∧ Box w1 (W.heap.size + 1) b.toList ∧ Box w1 (W.heap.size + 1 + 1) c.toList ∧ W.heap.size + 3 ≤ w1.heap.size ∧ Later W w1 := by
  have h1 := (((box_alloc W a t).later ((Later.rfl' _).alloc (.cells b u))).later ((Later.rfl' _).alloc (.cells c x))).later hb
  have h2 := ((box_alloc (W.alloc (.cells a t)) b u).later ((Later.rfl' _).alloc (.cells c x))).later hb
  have h3 := (box_alloc ((W.alloc (.cells a t)).alloc (.cells b u)) c x).later hb
  have hs := hb.size
  simp only [World.size_alloc] at h2 h3 hs
  exact ⟨h1, h2, h3, by omega, ((((Later.rfl' _).alloc _).alloc _).alloc _).trans hb⟩
theorem Later.set {a b : World} (h : Later a b) {g : Nat} (hg : a.heap.size ≤ g) (o : Nat) (u : Value) : Later a (b.setCell ⟨g, o, none⟩ u) := Below.setCell h hg _

/-- A row of strings of the call's own. -/
theorem own_strs {w : World} {base : Nat} {e : TypeId} {v : Value} {xs : List ByteArray} {S : Nat → Prop} (h : w.ownsRow base e 1 v xs.length (xs.map .string)) (hf : ∀ x ∈ xs, x.size ≤ 9223372036854775807) (hS : ∀ g, v.ownBlock = some g → S g) : Own w S (.sl 1 xs.length (xs.flatMap encS)) v := by
  rw [flat_strs]
  refine Own.of_row noB h (by simp) (fun g hg => ⟨hS g hg, fun _ h => h⟩) (fun _ _ h => False.elim h) (fun _ _ _ _ h => False.elim h) (fun i d u hd hu => ?_)
  rw [List.getElem?_map] at hd hu
  obtain ⟨x, hx, rfl⟩ := Option.map_eq_some_iff.1 hd
  rw [hx] at hu
  simp at hu
  subst hu
  exact .str _ _ (hf x (List.mem_of_getElem? hx))
theorem copyStrs (l : List ByteArray) (W : World) (S : Nat → Prop) (v : Value) (h : SlAt W S 1 encS l v) (hn : l.length ≤ 1048576) : Calls Try.prog 28 #[v] W fun r w' => CopyS W w' 1 encS l r ∧ Later W w' := by
  have hs := sl_strs h
  refine (toStringS v l W hs hn).mono ?_
  rintro r w' ⟨⟨u, rfl, ho⟩, hl⟩
  exact ⟨⟨u, rfl, own_strs ho hs.1.2 fun g hg => ho.lt g hg⟩, hl⟩

theorem toRow (x : Rw) (W : World) (S : Nat → Prop) (cs : List Value) (h : Ats W S (encR x) cs) (hn : x.cost ≤ 1048576) : Calls Try.prog 43 #[.agg cs.toArray] W fun r w' => (∃ A1 c1 A2 c2, r = .returned (.agg #[.slice A1 x.cells.length c1, .slice A2 x.from_.length c2]) ∧ Owns w' (fun b => W.heap.size ≤ b ∧ b < w'.heap.size) (encR x) [.slice A1 x.cells.length c1, .slice A2 x.from_.length c2]) ∧ Later W w' := by
  obtain ⟨A, c, A', c', rfl, _, _, g1, g2⟩ := h.row
  unfold Rw.cost at hn
  have C1 := fun W' (hW' : Later W W') => toIntS x.cells W' S _ (g1.later hW') (by omega)
  have C2 := fun W' (hW' : Later W W') => toOriginS x.from_ W' S _ (g2.later hW') (by omega)
  have H1 := Lib.hid C1
  have H2 := Lib.hid C2
  clear C1 C2 g1 g2 h
  go_enter Try.func43, Try.ntmps43
  go_wp2_with fail
  refine (H1.out _ ((((Later.rfl' _).alloc _).alloc _).alloc _)).mono ?_; rintro r w1 ⟨⟨v1, rfl, o1⟩, hb1⟩
  obtain ⟨A1, c1, rfl, _, _⟩ := sl_parts o1.at_
  obtain ⟨P, R, B, hs, L⟩ := box3 hb1
  have hs1 := hb1.size
  simp only [World.size_alloc] at hs1
  have p1 := P.cell (j := 1) rfl
  have k0 := B.cell (j := 0) rfl
  have f0 := B.free 0
  have R1 := Lib.hid (R.other 0 (.slice A1 x.cells.length c1) (show W.heap.size + 1 ≠ W.heap.size + 1 + 1 by omega))
  have B1 := Lib.hid (B.set 0 (.slice A1 x.cells.length c1))
  have L1 := Lib.hid (L.set (show W.heap.size ≤ W.heap.size + 1 + 1 by omega) 0 (.slice A1 x.cells.length c1))
  have O1 := Lib.hid (o1.chg (S' := fun b => b = W.heap.size + 1 + 1) (Chg.set (o := 0) (u := .slice A1 x.cells.length c1) (Chg.rfl' _ w1) rfl) fun b h1 h2 => by simp only [World.size_alloc] at h1; omega)
  have HS := Lib.hid hs
  clear hb1 o1 P R B L hs hs1
  go_wp2_with fail
  refine (H2.out _ L1.out).mono ?_; rintro r w2 ⟨⟨v2, rfl, o2⟩, hb2⟩
  obtain ⟨A2, c2, rfl, _, _⟩ := sl_parts o2.at_
  have R := R1.out.later hb2
  have B := B1.out.later hb2
  have hs2 := hb2.size
  have hs3 := HS.out
  simp only [World.size_setCell] at hs2
  have z0 := R.cell (j := 0) rfl
  have z1 := R.cell (j := 1) rfl
  have y0 := R.free 0
  have y1 := R.free 1
  have k0' := B.cell (j := 0) rfl
  have k1' := B.cell (j := 1) rfl
  have f1' := B.free 1
  have hcg : Chg (fun b => b = W.heap.size + 1 ∨ b = W.heap.size + 1 + 1) w2 (setFrom (setFrom w2 (W.heap.size + 1 + 1) 1 [.slice A2 x.from_.length c2]) (W.heap.size + 1) 0 [.slice A1 x.cells.length c1, .slice A2 x.from_.length c2]) :=
    Chg.set (Chg.set (Chg.set (Chg.rfl' _ w2) (.inr rfl)) (.inl rfl)) (.inl rfl)
  have hsz : (setFrom (setFrom w2 (W.heap.size + 1 + 1) 1 [.slice A2 x.from_.length c2]) (W.heap.size + 1) 0 [.slice A1 x.cells.length c1, .slice A2 x.from_.length c2]).heap.size = w2.heap.size := by rw [size_setFrom, size_setFrom]
  have HR : Hid (Owns (setFrom (setFrom w2 (W.heap.size + 1 + 1) 1 [.slice A2 x.from_.length c2]) (W.heap.size + 1) 0 [.slice A1 x.cells.length c1, .slice A2 x.from_.length c2]) (fun b => W.heap.size ≤ b ∧ b < w2.heap.size) (encR x) [.slice A1 x.cells.length c1, .slice A2 x.from_.length c2]) := by
    have q1 := (O1.out.later hb2).chg hcg fun b h1 h2 => by simp only [World.size_alloc] at h1; omega
    have q2 := o2.chg hcg fun b h1 h2 => by simp only [World.size_setCell] at h1; omega
    refine Owns.cons q1 (Owns.cons q2 (owns_nil _ (fun _ => False)) (fun b h => h) (fun b h => False.elim h) (fun b _ h => h)) (fun b h => ?_) (fun b h => ?_) (fun b h1 h2 => ?_)
    · simp only [World.size_alloc] at h; omega
    · simp only [World.size_setCell] at h; omega
    · simp only [World.size_setCell] at h2; omega
  have HL : Hid (Later W (setFrom (setFrom w2 (W.heap.size + 1 + 1) 1 [.slice A2 x.from_.length c2]) (W.heap.size + 1) 0 [.slice A1 x.cells.length c1, .slice A2 x.from_.length c2])) := later_setFrom (by omega) _ _ _ (later_setFrom (by omega) _ _ _ (L1.out.trans hb2))
  rw [← hsz] at HR
  clear hcg hsz R B R1 B1 L1 O1 H1 H2 hb2 o2 HS p1 k0 f0
  go_wp2_with fail
  exact bodyPost_ret (v := .agg #[.slice A1 x.cells.length c1, .slice A2 x.from_.length c2]) (by simp [results, Try.results43, go_sem, z0, z1]) rfl ⟨⟨_, _, _, _, rfl, HR.out⟩, HL.out⟩
end Go.Proofs.Ytjjmbldgemnhbaa
