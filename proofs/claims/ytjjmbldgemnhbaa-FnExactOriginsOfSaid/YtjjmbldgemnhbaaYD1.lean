/-
  Data in memory, of whatever shape: a datum of cells; how it lies; what a call owns of it; marks.
-/
import Derived.Test.YtjjmbldgemnhbaaYOwn
namespace Go.Proofs.Ytjjmbldgemnhbaa
open Go.RowKit Go.ChangeShapes Go.WideShapes
set_option linter.unusedVariables false
set_option linter.unusedSimpArgs false

/-- A cell's datum: a number, a text, a slice of n elements of s cells each. -/
inductive Dt where
  | int (n : Int)
  | str (s : ByteArray)
  | sl (s n : Nat) (ds : List Dt)

/-- A datum that lies in memory; its blocks are of a kind S. -/
inductive At (w : World) (S : Nat → Prop) : Dt → Value → Prop
  | int (n : Int) (h : Between64 n) : At w S (.int n) (.int .i64 n)
  | str (s : ByteArray) (h : s.size ≤ 9223372036854775807) : At w S (.str s) (.string s)
  | sl (s n : Nat) (ds : List Dt) (A : Option Addr) (c : Nat) (F : Nat → Value) (hl : ds.length = n * s) (hc : n ≤ c ∧ c ≤ 9223372036854775807)
      (hA : ds ≠ [] → ∃ b off, A = some ⟨b, off, none⟩ ∧ b < w.heap.size ∧ S b ∧ ∀ i, i < ds.length → w.cell? ⟨b, off + i, none⟩ = some (F i))
      (hF : ∀ i d, ds[i]? = some d → At w S d (F i)) : At w S (.sl s n ds) (.slice A n c)

theorem At.keep {w w' : World} {S S' : Nat → Prop} {d : Dt} {v : Value} (h : At w S d v) (hb : ∀ b, S b → b < w.heap.size → S' b ∧ b < w'.heap.size ∧ w'.heap[b]? = w.heap[b]?) : At w' S' d v := by
  induction h with
  | int n h => exact .int n h
  | str s h => exact .str s h
  | sl s n ds A c F hl hc hA hF ih =>
    refine .sl s n ds A c F hl hc (fun hn => ?_) ih
    obtain ⟨b, off, e, hlt, hs, hcell⟩ := hA hn
    obtain ⟨h1, h2, h3⟩ := hb b hs hlt
    exact ⟨b, off, e, h2, h1, fun i hi => (World.cell?_of_block (w := w) (a := ⟨b, _, none⟩) h3).trans (hcell i hi)⟩
theorem At.later {w w' : World} {S : Nat → Prop} {d : Dt} {v : Value} (h : At w S d v) (hb : Later w w') : At w' S d v :=
  h.keep fun b hs hl => ⟨hs, Nat.lt_of_lt_of_le hl hb.size, Below.block hb b hl⟩
theorem At.more {w : World} {S S' : Nat → Prop} {d : Dt} {v : Value} (h : At w S d v) (hS : ∀ b, S b → S' b) : At w S' d v :=
  h.keep fun b hs hl => ⟨hS b hs, hl, rfl⟩
def anyB : Nat → Prop := fun _ => True
theorem At.any {w : World} {S : Nat → Prop} {d : Dt} {v : Value} (h : At w S d v) : At w anyB d v := h.more fun _ _ => trivial
theorem At.int_inv {w : World} {S : Nat → Prop} {n : Int} {v : Value} (h : At w S (.int n) v) : v = .int .i64 n ∧ Between64 n := by cases h; exact ⟨rfl, by assumption⟩
theorem At.str_inv {w : World} {S : Nat → Prop} {s : ByteArray} {v : Value} (h : At w S (.str s) v) : v = .string s ∧ s.size ≤ 9223372036854775807 := by cases h; exact ⟨rfl, by assumption⟩
theorem At.sl_inv {w : World} {S : Nat → Prop} {s n : Nat} {ds : List Dt} {v : Value} (h : At w S (.sl s n ds) v) : ∃ A c, v = .slice A n c ∧ n ≤ c ∧ c ≤ 9223372036854775807 ∧ ds.length = n * s := by
  cases h; exact ⟨_, _, rfl, by omega, by omega, by assumption⟩
/-- The cells of a slice. -/
theorem At.cells {w : World} {S : Nat → Prop} {s n c : Nat} {A : Option Addr} {ds : List Dt} (h : At w S (.sl s n ds) (.slice A n c)) (hn : ds ≠ []) :
    ∃ b off, A = some ⟨b, off, none⟩ ∧ b < w.heap.size ∧ S b ∧ ∀ (i : Nat) d, ds[i]? = some d → ∃ u, w.cell? ⟨b, off + i, none⟩ = some u ∧ At w S d u := by
  cases h with
  | sl _ _ _ _ _ F hl hc hA hF =>
    obtain ⟨b, off, e, hlt, hs, hcell⟩ := hA hn
    exact ⟨b, off, e, hlt, hs, fun i d hd => ⟨_, hcell i (List.getElem?_eq_some_iff.1 hd).1, hF i d hd⟩⟩
/-- A slice made out of its cells. -/
theorem At.make {w : World} {S : Nat → Prop} {s n c : Nat} {A : Option Addr} {ds : List Dt} (hl : ds.length = n * s) (h1 : n ≤ c) (h2 : c ≤ 9223372036854775807)
    (h : ds ≠ [] → ∃ b off, A = some ⟨b, off, none⟩ ∧ b < w.heap.size ∧ S b ∧ ∀ (i : Nat) d, ds[i]? = some d → ∃ u, w.cell? ⟨b, off + i, none⟩ = some u ∧ At w S d u) : At w S (.sl s n ds) (.slice A n c) := by
  by_cases hn : ds = []
  · subst hn
    exact .sl s n [] A c (fun _ => .int .i64 0) hl ⟨h1, h2⟩ (fun h => absurd rfl h) (fun i d hd => by simp at hd)
  · obtain ⟨b, off, e, hlt, hs, hcell⟩ := h hn
    have : ∀ i, ∃ u, ∀ d, ds[i]? = some d → w.cell? ⟨b, off + i, none⟩ = some u ∧ At w S d u := by
      intro i
      by_cases hi : i < ds.length
      · obtain ⟨u, h1, h2⟩ := hcell i _ (List.getElem?_eq_getElem hi)
        exact ⟨u, fun d hd => by rw [List.getElem?_eq_getElem hi] at hd; cases hd; exact ⟨h1, h2⟩⟩
      · exact ⟨.int .i64 0, fun d hd => absurd (List.getElem?_eq_some_iff.1 hd).1 hi⟩
    refine .sl s n ds A c (fun i => (this i).choose) hl ⟨h1, h2⟩ (fun _ => ⟨b, off, e, hlt, hs, fun i hi => ?_⟩) (fun i d hd => ?_)
    · exact ((this i).choose_spec _ (List.getElem?_eq_getElem hi)).1
    · exact ((this i).choose_spec d hd).2

/-- What the call owns: every slice has a block of its own. -/
inductive Own (w : World) : (Nat → Prop) → Dt → Value → Prop
  | int (S : Nat → Prop) (n : Int) (h : Between64 n) : Own w S (.int n) (.int .i64 n)
  | str (S : Nat → Prop) (s : ByteArray) (h : s.size ≤ 9223372036854775807) : Own w S (.str s) (.string s)
  | sl (S : Nat → Prop) (s n : Nat) (ds : List Dt) (v : Value) (e : TypeId) (xs : List Value) (T : Nat → Nat → Prop)
      (hrow : w.ownsRow 0 e s v n xs) (hl : ds.length = n * s) (hS : ∀ g, v.ownBlock = some g → S g ∧ ∀ i, ¬ T i g) (hT : ∀ i b, T i b → S b)
      (hsep : ∀ i j, i ≠ j → ∀ b, T i b → T j b → False) (hF : ∀ i d u, ds[i]? = some d → xs[i]? = some u → Own w (T i) d u) : Own w S (.sl s n ds) v

theorem row_base {w : World} {base e s n : Nat} {v : Value} {xs : List Value} (h : w.ownsRow base e s v n xs) : w.ownsRow 0 e s v n xs := by
  refine ⟨h.1, ?_⟩
  rcases h.2 with hn | ⟨g, cap, cur, rfl, _, rest⟩
  · exact .inl hn
  · exact .inr ⟨g, cap, cur, rfl, Nat.zero_le _, rest⟩
theorem row_shape {w : World} {base e s n : Nat} {v : Value} {xs : List Value} (h : w.ownsRow base e s v n xs) : ∃ A c, v = .slice A n c ∧ n ≤ c ∧ c ≤ 9223372036854775807 ∧ (0 < n → ∃ g, A = some ⟨g, 0, none⟩ ∧ v.ownBlock = some g) := by
  rcases h.2 with ⟨rfl, h0⟩ | ⟨g, cap, cur, rfl, hb, hg, hnc, hm, hs, htake⟩
  · subst h0
    exact ⟨none, 0, rfl, Nat.le_refl _, by omega, fun h => absurd h (by omega)⟩
  · exact ⟨_, _, rfl, hnc, by simp only [maxLen] at hm; omega, fun _ => ⟨g, rfl, rfl⟩⟩
theorem row_block {w w' : World} {base e s n : Nat} {v : Value} {xs : List Value} (h : w.ownsRow base e s v n xs) (hb : ∀ g, v.ownBlock = some g → w'.heap[g]? = w.heap[g]?) : w'.ownsRow base e s v n xs := by
  refine ⟨h.1, ?_⟩
  rcases h.2 with hn | ⟨g, cap, cur, rfl, h0, hg, rest⟩
  · exact .inl hn
  · exact .inr ⟨g, cap, cur, rfl, h0, (hb g rfl).trans hg, rest⟩

theorem Own.keep {w w' : World} {S : Nat → Prop} {d : Dt} {v : Value} (h : Own w S d v) : ∀ {S' : Nat → Prop}, (∀ b, S b → b < w.heap.size → S' b ∧ w'.heap[b]? = w.heap[b]?) → Own w' S' d v := by
  induction h with
  | int S n h => intro S' _; exact .int S' n h
  | str S s h => intro S' _; exact .str S' s h
  | sl S s n ds v e xs T hrow hl hS hT hsep hF ih =>
    intro S' hb
    refine .sl S' s n ds v e xs (fun i b => T i b ∧ b < w.heap.size) (row_block hrow fun g hg => (hb g (hS g hg).1 (hrow.lt g hg).2).2) hl (fun g hg => ⟨(hb g (hS g hg).1 (hrow.lt g hg).2).1, fun i h => (hS g hg).2 i h.1⟩) (fun i b h => (hb b (hT i b h.1) h.2).1)
      (fun i j hij b h1 h2 => hsep i j hij b h1.1 h2.1) (fun i d u hd hu => ih i d u hd hu fun b h1 h2 => ⟨⟨h1, h2⟩, (hb b (hT i b h1) h2).2⟩)
theorem Own.later {w w' : World} {S : Nat → Prop} {d : Dt} {v : Value} (h : Own w S d v) (hb : Later w w') : Own w' S d v :=
  h.keep fun b hs hl => ⟨hs, Below.block hb b hl⟩
theorem Own.more {w : World} {S S' : Nat → Prop} {d : Dt} {v : Value} (h : Own w S d v) (hS : ∀ b, S b → S' b) : Own w S' d v :=
  h.keep fun b hs hl => ⟨hS b hs, rfl⟩
/-- Only blocks that lie count. -/
theorem Own.low {w : World} {S : Nat → Prop} {d : Dt} {v : Value} (h : Own w S d v) : Own w (fun b => S b ∧ b < w.heap.size) d v :=
  h.keep fun b hs hl => ⟨⟨hs, hl⟩, rfl⟩
theorem Own.at_ {w : World} {S : Nat → Prop} {d : Dt} {v : Value} (h : Own w S d v) : At w S d v := by
  induction h with
  | int S n h => exact .int n h
  | str S s h => exact .str s h
  | sl S s n ds v e xs T hrow hl hS hT hsep hF ih =>
    obtain ⟨A, c, rfl, h1, h2, h3⟩ := row_shape hrow
    refine At.make hl h1 h2 fun hn => ?_
    have hn0 : 0 < n := by
      rcases Nat.eq_zero_or_pos n with h | h
      · subst h; simp at hl; exact absurd hl hn
      · exact h
    obtain ⟨g, rfl, hg⟩ := h3 hn0
    refine ⟨g, 0, rfl, (hrow.lt g hg).2, (hS g hg).1, fun i d hd => ?_⟩
    have hi : i < n * s := by rw [← hl]; exact (List.getElem?_eq_some_iff.1 hd).1
    have hu : xs[i]? = some (xs[i]'(by rw [hrow.1]; exact hi)) := List.getElem?_eq_getElem _
    refine ⟨_, ?_, (ih i d _ hd hu).more fun b hb => hT i b hb⟩
    rw [Nat.zero_add, hrow.cellAt i hi, hu]
/-- The same, of a row whose cells are leaves or own what no other owns. -/
theorem Own.of_row {w : World} {S : Nat → Prop} {base e s n : Nat} {v : Value} {xs : List Value} {ds : List Dt} (T : Nat → Nat → Prop) (hrow : w.ownsRow base e s v n xs) (hl : ds.length = n * s) (hS : ∀ g, v.ownBlock = some g → S g ∧ ∀ i, ¬ T i g) (hT : ∀ i b, T i b → S b)
    (hsep : ∀ i j, i ≠ j → ∀ b, T i b → T j b → False) (hF : ∀ i d u, ds[i]? = some d → xs[i]? = some u → Own w (T i) d u) : Own w S (.sl s n ds) v :=
  .sl S s n ds v e xs T (row_base hrow) hl hS hT hsep hF
def noB : Nat → Nat → Prop := fun _ _ => False

/-- Only blocks of a kind have turned. -/
structure Chg (S : Nat → Prop) (w w' : World) : Prop where
  os : w'.os = w.os
  tape : w'.tape = w.tape
  output : w'.output = w.output
  size : w.heap.size ≤ w'.heap.size
  block : ∀ k, k < w.heap.size → ¬ S k → w'.heap[k]? = w.heap[k]?
theorem Chg.rfl' (S : Nat → Prop) (w : World) : Chg S w w := ⟨rfl, rfl, rfl, Nat.le_refl _, fun _ _ _ => rfl⟩
theorem Chg.trans {S : Nat → Prop} {a b c : World} (h : Chg S a b) (k : Chg S b c) : Chg S a c :=
  ⟨k.os.trans h.os, k.tape.trans h.tape, k.output.trans h.output, Nat.le_trans h.size k.size, fun i hi hs => (k.block i (Nat.lt_of_lt_of_le hi h.size) hs).trans (h.block i hi hs)⟩
theorem Chg.more {S S' : Nat → Prop} {a b : World} (h : Chg S a b) (hS : ∀ k, S k → S' k) : Chg S' a b := ⟨h.os, h.tape, h.output, h.size, fun i hi hs => h.block i hi fun e => hs (hS i e)⟩
theorem Later.chg {a b : World} (h : Later a b) (S : Nat → Prop) : Chg S a b := ⟨Below.os h, Below.tape h, Below.output h, h.size, fun k hk _ => Below.block h k hk⟩
theorem Chg.set {S : Nat → Prop} {w a : World} {g o : Nat} {u : Value} (h : Chg S w a) (hg : S g) : Chg S w (a.setCell ⟨g, o, none⟩ u) := by
  have hs := Below.setCell (Below.refl 0 a) (p := ⟨g, o, none⟩) (Nat.zero_le _) u
  refine ⟨(Below.os hs).trans h.os, (Below.tape hs).trans h.tape, (Below.output hs).trans h.output, by rw [World.size_setCell]; exact h.size, fun k hk hne => ?_⟩
  rw [Below.heap_setCell _ _ _ _ (by intro e; exact hne (by rw [e]; exact hg))]
  exact h.block k hk hne
theorem Chg.later {S : Nat → Prop} {W a b : World} (l : Later W a) (h : Chg S a b) (hS : ∀ k, S k → W.heap.size ≤ k) : Later W b :=
  ⟨h.os.trans (Below.os l), h.tape.trans (Below.tape l), h.output.trans (Below.output l), Nat.le_trans l.size h.size, fun k hk => (h.block k (Nat.lt_of_lt_of_le hk l.size) fun e => by have := hS k e; omega).trans (Below.block l k hk)⟩
theorem At.chg {w w' : World} {S S' : Nat → Prop} {d : Dt} {v : Value} (h : At w S d v) (c : Chg S' w w') (hd : ∀ b, S b → S' b → False) : At w' S d v :=
  h.keep fun b hs hl => ⟨hs, Nat.lt_of_lt_of_le hl c.size, c.block b hl fun e => hd b hs e⟩
theorem Own.chg {w w' : World} {S S' : Nat → Prop} {d : Dt} {v : Value} (h : Own w S d v) (c : Chg S' w w') (hd : ∀ b, S b → S' b → False) : Own w' S d v :=
  h.keep fun b hs hl => ⟨hs, c.block b hl fun e => hd b hs e⟩

/-- A cell of what is owned: it lies, and may be written. -/
theorem Own.cell {w : World} {S : Nat → Prop} {s n c : Nat} {A : Option Addr} {ds : List Dt} (h : Own w S (.sl s n ds) (.slice A n c)) {i : Nat} {d : Dt} (hd : ds[i]? = some d) :
    ∃ g u, A = some ⟨g, 0, none⟩ ∧ S g ∧ g < w.heap.size ∧ w.cell? ⟨g, i, none⟩ = some u ∧ w.frozen? ⟨g, i, none⟩ = false ∧
      ∃ T : Nat → Prop, (∀ b, T b → S b) ∧ ¬ T g ∧ Own w T d u ∧
        (∀ w' d', Own w' T d' u → Chg T w w' → Own w' S (.sl s n (ds.set i d')) (.slice A n c)) ∧
        (∀ d' u', (∀ T w', Own w' T d' u') → Own (w.setCell ⟨g, i, none⟩ u') S (.sl s n (ds.set i d')) (.slice A n c)) := by
  cases h with
  | sl _ _ _ _ _ e xs T hrow hl hS hT hsep hF =>
    have hi : i < ds.length := (List.getElem?_eq_some_iff.1 hd).1
    obtain ⟨A', c', he, h1, h2, h3⟩ := row_shape hrow
    simp only [Value.slice.injEq, true_and] at he
    obtain ⟨rfl, rfl⟩ := he
    have hn0 : 0 < n := by
      rcases Nat.eq_zero_or_pos n with h | h
      · subst h; simp at hl; rw [hl] at hi; simp at hi
      · exact h
    obtain ⟨g, rfl, hg⟩ := h3 hn0
    have hu : xs[i]? = some (xs[i]'(by rw [hrow.1, ← hl]; exact hi)) := List.getElem?_eq_getElem _
    refine ⟨g, _, rfl, (hS g hg).1, (hrow.lt g hg).2, ?_, hrow.frozenAt i, T i, hT i, (hS g hg).2 i, hF i d _ hd hu, fun w' d' ho hc => ?_, fun d' u' ho => ?_⟩
    · rw [hrow.cellAt i (by omega), hu]
    · refine .sl S s n _ _ e xs T (row_block hrow fun g' hg' => hc.block g' (hrow.lt g' hg').2 ((hS g' hg').2 i)) (by rw [List.length_set]; exact hl) hS hT hsep fun j d2 u2 hd2 hu2 => ?_
      by_cases hij : i = j
      · subst hij
        rw [List.getElem?_set_self hi] at hd2
        rw [hu] at hu2
        cases hd2; cases hu2
        exact ho
      · rw [List.getElem?_set_ne hij] at hd2
        exact (hF j d2 u2 hd2 hu2).chg hc fun b h1 h2 => hsep i j hij b h2 h1
    · have hst := (hrow.stored i u').1
      refine .sl S s n _ _ e (xs.set i u') T hst (by rw [List.length_set]; exact hl) hS hT hsep fun j d2 u2 hd2 hu2 => ?_
      by_cases hij : i = j
      · subst hij
        rw [List.getElem?_set_self hi] at hd2
        rw [List.getElem?_set_self (by rw [hrow.1, ← hl]; exact hi)] at hu2
        cases hd2; cases hu2
        exact ho _ _
      · rw [List.getElem?_set_ne hij] at hd2 hu2
        exact (hF j d2 u2 hd2 hu2).chg (S' := fun b => b = g) ((Chg.rfl' _ w).set rfl) fun b h1 h2 => by subst h2; exact (hS b hg).2 j h1

/-! Lists of elements of s cells each. -/
theorem flat_len {α : Type} {enc : α → List Dt} {s : Nat} (hs : ∀ a, (enc a).length = s) (l : List α) : (l.flatMap enc).length = l.length * s := by
  induction l with
  | nil => simp
  | cons a l ih => rw [List.flatMap_cons, List.length_append, hs, ih, List.length_cons, Nat.succ_mul]; omega
theorem flat_get {α : Type} {enc : α → List Dt} {s : Nat} (hs : ∀ a, (enc a).length = s) : ∀ (l : List α) {i j : Nat} (hi : i < l.length) (hj : j < s), (l.flatMap enc)[i * s + j]? = (enc l[i])[j]?
  | a :: l, 0, j, _, hj => by rw [List.flatMap_cons, Nat.zero_mul, Nat.zero_add, List.getElem?_append_left (by rw [hs]; exact hj)]; rfl
  | a :: l, i + 1, j, hi, hj => by
    have e : (i + 1) * s + j = s + (i * s + j) := by rw [Nat.succ_mul]; omega
    rw [List.flatMap_cons, e, List.getElem?_append_right (by rw [hs]; omega), hs, Nat.add_sub_cancel_left]
    have := flat_get hs l (i := i) (j := j) (by simpa using hi) hj
    rw [this]
    rfl
theorem flat_take {α : Type} {enc : α → List Dt} {s : Nat} (hs : ∀ a, (enc a).length = s) (l : List α) (i : Nat) : (l.flatMap enc).take (i * s) = (l.take i).flatMap enc := by
  induction l generalizing i with
  | nil => simp
  | cons a l ih =>
    match i with
    | 0 => simp
    | i + 1 =>
      rw [List.flatMap_cons, List.take_succ_cons, List.flatMap_cons, Nat.succ_mul, Nat.add_comm, ← hs a, List.take_length_add_append]
      rw [hs a, ih]

/-- A slice of elements. -/
def SlAt {α : Type} (w : World) (S : Nat → Prop) (s : Nat) (enc : α → List Dt) (l : List α) (v : Value) : Prop := At w S (.sl s l.length (l.flatMap enc)) v
theorem SlAt.elem {α : Type} {w : World} {S : Nat → Prop} {s n c : Nat} {enc : α → List Dt} {l : List α} {A : Option Addr} (hs : ∀ a, (enc a).length = s) (h : SlAt w S s enc l (.slice A n c)) {i : Nat} (hi : i < l.length) (h0 : 0 < s) :
    ∃ b off, A = some ⟨b, off, none⟩ ∧ b < w.heap.size ∧ S b ∧ ∀ (j : Nat) d, j < s → (enc l[i])[j]? = some d → ∃ u, w.cell? ⟨b, off + (i * s + j), none⟩ = some u ∧ At w S d u := by
  have hn : n = l.length := by obtain ⟨A', c', e, _⟩ := At.sl_inv h; simp only [Value.slice.injEq] at e; exact e.2.1
  subst hn
  obtain ⟨b, off, e, hl, hS, hc⟩ := At.cells h (by
    intro e
    have h2 : l.length * s = 0 := by rw [← flat_len hs l, e]; rfl
    have := Nat.mul_eq_zero.1 h2
    omega)
  exact ⟨b, off, e, hl, hS, fun j d hj hd => hc _ d (by rw [flat_get hs l hi hj]; exact hd)⟩

/-- A datum's range: what its numbers and texts may be. -/
inductive Ok : Dt → Prop
  | int (n : Int) (h : Between64 n) : Ok (.int n)
  | str (s : ByteArray) (h : s.size ≤ 9223372036854775807) : Ok (.str s)
  | sl (s n : Nat) (ds : List Dt) (h1 : ds.length = n * s) (h2 : n ≤ 9223372036854775807) (h3 : ∀ d, d ∈ ds → Ok d) : Ok (.sl s n ds)
theorem At.ok {w : World} {S : Nat → Prop} {d : Dt} {v : Value} (h : At w S d v) : Ok d := by
  induction h with
  | int n h => exact .int n h
  | str s h => exact .str s h
  | sl s n ds A c F hl hc hA hF ih =>
    refine .sl s n ds hl (by omega) fun d hd => ?_
    obtain ⟨i, hi⟩ := List.getElem?_of_mem hd
    exact ih i d hi
theorem Ok.int_inv {n : Int} (h : Ok (.int n)) : Between64 n := by cases h; assumption
theorem Ok.str_inv {s : ByteArray} (h : Ok (.str s)) : s.size ≤ 9223372036854775807 := by cases h; assumption
theorem Ok.sl_inv {s n : Nat} {ds : List Dt} (h : Ok (.sl s n ds)) : n ≤ 9223372036854775807 ∧ ∀ d, d ∈ ds → Ok d := by cases h; exact ⟨by assumption, by assumption⟩

/-! Marks. -/
mutual
def Dt.cnt : Dt → Nat
  | .int _ => 1
  | .str _ => 1
  | .sl _ _ ds => Dt.cnts ds
def Dt.cnts : List Dt → Nat
  | [] => 0
  | d :: ds => d.cnt + Dt.cnts ds
end
section
variable (mk : Nat → ByteArray)
mutual
def Dt.mark : Dt → Nat → Dt
  | .int _, k => .int k
  | .str _, k => .str (mk k)
  | .sl s n ds, k => .sl s n (Dt.marks ds k)
def Dt.marks : List Dt → Nat → List Dt
  | [], _ => []
  | d :: ds, k => d.mark k :: Dt.marks ds (k + d.cnt)
end
theorem length_marks : ∀ (ds : List Dt) (k : Nat), (Dt.marks mk ds k).length = ds.length
  | [], _ => rfl
  | d :: ds, k => by rw [Dt.marks, List.length_cons, length_marks ds, List.length_cons]
theorem get_marks : ∀ (ds : List Dt) (k i : Nat), (Dt.marks mk ds k)[i]? = ds[i]?.map fun d => d.mark mk (k + Dt.cnts (ds.take i))
  | [], _, _ => by simp [Dt.marks]
  | d :: ds, k, 0 => by simp [Dt.marks, Dt.cnts]
  | d :: ds, k, i + 1 => by
    rw [Dt.marks, List.getElem?_cons_succ, get_marks ds, List.getElem?_cons_succ, List.take_succ_cons, Dt.cnts, Nat.add_assoc]
end
theorem cnts_append (a b : List Dt) : Dt.cnts (a ++ b) = Dt.cnts a + Dt.cnts b := by
  induction a with
  | nil => simp [Dt.cnts]
  | cons d ds ih => simp only [List.cons_append, Dt.cnts, ih]; omega
theorem cnts_succ {ds : List Dt} {i : Nat} {d : Dt} (h : ds[i]? = some d) : Dt.cnts (ds.take (i + 1)) = Dt.cnts (ds.take i) + d.cnt := by
  obtain ⟨hi, rfl⟩ := List.getElem?_eq_some_iff.1 h
  rw [List.take_succ_eq_append_getElem hi, cnts_append]
  simp [Dt.cnts]
theorem cnts_le (ds : List Dt) (i : Nat) : Dt.cnts (ds.take i) ≤ Dt.cnts ds := by
  conv => rhs; rw [← List.take_append_drop i ds, cnts_append]
  exact Nat.le_add_right _ _

/-- The first p cells are marked. -/
def mixd (ds ms : List Dt) (p : Nat) : List Dt := ms.take p ++ ds.drop p
theorem mixd_zero (ds ms : List Dt) : mixd ds ms 0 = ds := by simp [mixd]
theorem mixd_all {ds ms : List Dt} (h : ms.length = ds.length) : mixd ds ms ds.length = ms := by
  unfold mixd
  rw [List.drop_length, List.append_nil, ← h, List.take_length]
theorem mixd_get {ds ms : List Dt} (h : ms.length = ds.length) {p i : Nat} (hp : p ≤ i) (hpl : p ≤ ds.length) : (mixd ds ms p)[i]? = ds[i]? := by
  unfold mixd
  rw [List.getElem?_append_right (by rw [List.length_take]; omega), List.length_take, h, Nat.min_eq_left hpl, List.getElem?_drop]
  congr 1
  omega
theorem mixd_set {ds ms : List Dt} (h : ms.length = ds.length) {p : Nat} {d : Dt} (hd : ms[p]? = some d) : (mixd ds ms p).set p d = mixd ds ms (p + 1) := by
  obtain ⟨hp, rfl⟩ := List.getElem?_eq_some_iff.1 hd
  unfold mixd
  rw [List.set_append_right _ _ (by rw [List.length_take]; omega), List.length_take, Nat.min_eq_left (by omega), Nat.sub_self, List.drop_eq_getElem_cons (by omega), List.set_cons_zero, List.take_succ_eq_append_getElem hp, List.append_assoc]
  rfl
end Go.Proofs.Ytjjmbldgemnhbaa
