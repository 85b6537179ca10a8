/-
  The program's UnionOrigins: what the walk reckons with: origins as keys of a map, a row before and behind the sort, the state of the loop.
-/
import Derived.Test.YtjjmbldgemnhbaaYSQS
import Derived.Test.YtjjmbldgemnhbaaYUO3
import Derived.Test.YtjjmbldgemnhbaaYMS
import Derived.Test.YtjjmbldgemnhbaaYAPP
import Derived.Maps.OwnOps
import Derived.DeepKeys4
namespace Go.Proofs.Ytjjmbldgemnhbaa
open Go.ChangeShapes Go.WideShapes Go.ChangeAt Go.RowKit
open Go.Maps (Keyed)
set_option linter.unusedVariables false
set_option linter.unusedSimpArgs false
set_option maxRecDepth 100000

/-! ### Keys -/
theorem keyed_orig : Keyed Try.prog 47 := Keyed.of_law (deep_law_laid laidOut_ (m := 4) (by omega) (of_decide_eq_true (by kernel_rfl)) (by kernel_rfl) (by kernel_rfl))
def keyV (o : Org) : Value := .agg #[.int .i64 o.1, .int .i64 o.2]
theorem keyV_inj {a b : Org} (h : keyV a = keyV b) : a = b := by
  unfold keyV at h
  simp at h
  exact Prod.ext h.1 h.2
theorem between_wf {a : Int} (h : Between64 a) : (Lit.int .i64 a).wf = true := by
  unfold Between64 at h
  simp [Lit.wf, IntKind.min, IntKind.max, IntKind.bits, IntKind.signed]
  omega
theorem keyLits_orig (d : Nat) {a b : Int} (ha : Between64 a) (hb : Between64 b) : Program.keyLits Try.prog (d + 2) 47 [.int .i64 a, .int .i64 b] = some [.int .i64 a, .int .i64 b] := by
  have h1 : Try.prog.cellsOf 47 = 2 := by kernel_rfl
  have h2 : Try.prog.cellsOf 3 = 1 := by kernel_rfl
  have w1 := between_wf ha
  have w2 := between_wf hb
  unfold Program.keyLits
  simp only [Try.underlying47]
  simp [h1, h2, Program.keyLits, Try.underlying3, w1, w2]
theorem key_orig {o : Org} (ho : Between64 o.1 ∧ Between64 o.2) : keyOf Try.prog 47 (keyV o) = some (.string (keyBytes [.int .i64 o.1, .int .i64 o.2])) := by
  have h1 : Try.prog.cellsOf 47 = 2 := by kernel_rfl
  have hkt : Try.prog.keyType 47 = true := by kernel_rfl
  have hsz : ∃ m, Try.prog.types.size + 1 = m + 2 := ⟨Try.prog.types.size - 1, by have : (1 ≤ Try.prog.types.size) := of_decide_eq_true (by kernel_rfl); omega⟩
  obtain ⟨m, hm⟩ := hsz
  have hl := keyLits_orig m ho.1 ho.2
  unfold keyOf keyV
  simp only [Try.underlying47]
  rw [if_pos (by simp [hkt, Value.formed, Try.underlying47, h1]), hm]
  simp only [Value.cells]
  rw [hl]
  rfl
theorem zero_bool (w : World) : (zeroValue 4).run Try.prog w = .ok (.bool false) w := by kernel_rfl

/-! ### The row before and behind the sort -/
theorem flat_at (K : List Org) {t : Nat} (ht : t < K.length * 2) : (K.flatMap cellsO)[t]? = some ((cellsO K.toArray[t / 2]!)[t % 2]!) := by
  obtain ⟨j, e⟩ : ∃ j, t = j * 2 ∨ t = j * 2 + 1 := ⟨t / 2, by omega⟩
  have hj : j < K.length := by omega
  obtain ⟨h0, h1⟩ := flat_cells_at K hj
  have ek : K.toArray[j]! = K[j] := by simp [hj]
  rcases e with rfl | rfl
  · rw [show j * 2 / 2 = j by omega, show j * 2 % 2 = 0 by omega, ek]
    simpa [cellsO] using h0
  · rw [show (j * 2 + 1) / 2 = j by omega, show (j * 2 + 1) % 2 = 1 by omega, ek]
    simpa [cellsO] using h1
theorem holds_of_row {w : World} {base g cap : Nat} {K : List Org} (h : ORow base w (.slice (some ⟨g, 0, none⟩) K.length cap) K) : Go.Sort.HoldsK cellsO 2 w g 0 K.toArray := by
  intro t ht
  have ht' : t < K.length * 2 := by simpa using ht
  rw [Nat.zero_add]
  refine ⟨?_, ?_⟩
  · rw [World.ownsRow.cellAt h t ht', flat_at K ht', Go.Sort.get_flatK _ _ _ _ (by simpa using ht')]
    rfl
  · rcases h.2 with ⟨h0, _⟩ | ⟨g', cap', cur, hv, hb, hg, _⟩
    · cases h0
    · cases hv
      simp [World.frozen?, hg]
theorem row_of_holds {w w1 : World} {base g cap n : Nat} {K : List Org} {d : Array Org} (h : ORow base w (.slice (some ⟨g, 0, none⟩) K.length cap) K) (hn : n = K.length) (hs : SR w g n w1 d) : ORow base w1 (.slice (some ⟨g, 0, none⟩) K.length cap) d.toList := by
  have hdl : d.toList.length = K.length := by rw [Array.length_toList, hs.size, hn]
  unfold ORow
  rw [hdl]
  refine ⟨by rw [flat_cells_len, hdl], ?_⟩
  rcases h.2 with ⟨h0, _⟩ | ⟨g', cap', cur, hv, hb, hg, h1, h2, h3, _⟩
  · cases h0
  cases hv
  obtain ⟨cur', hg', hs'⟩ := hs.same cur _ _ hg
  refine .inr ⟨g, cap, cur', rfl, hb, hg', h1, h2, hs'.trans h3, ?_⟩
  apply List.ext_getElem?
  intro t
  by_cases ht : t < K.length * 2
  · have ht' : t < d.toList.length * 2 := by rw [hdl]; exact ht
    have hr := (hs.row t (by rw [Go.Sort.size_flatK, hs.size, hn]; exact ht)).1
    rw [Nat.zero_add, Go.Sort.get_flatK _ _ _ _ (by rw [hs.size, hn]; exact ht)] at hr
    rw [List.getElem?_take_of_lt ht, flat_at d.toList ht']
    simpa [World.cell?, hg'] using hr
  · rw [List.getElem?_eq_none (by rw [List.length_take]; omega), List.getElem?_eq_none (by rw [flat_cells_len, hdl]; omega)]
theorem perm_of {n : Nat} {K : List Org} {d : Array Org} (hn : n = K.length) (h : Go.Sort.PermIn 0 n K.toArray d) : d.toList.Perm K := by
  have hsz : d.size = K.length := by simpa using h.1
  have h3 := h.2.2
  rw [hn] at h3
  have e1 : (d.extract 0 K.length).toList = d.toList := by rw [← hsz]; simp
  have e2 : (K.toArray.extract 0 K.length).toList = K := by simp
  rwa [e1, e2] at h3
theorem sorted_of {n : Nat} {d : Array Org} (hn : d.size = n) (h : Go.Sort.SortedIn ltO 0 n d) : d.toList.Pairwise fun x y => ltO y x = false := by
  rw [List.pairwise_iff_getElem]
  intro i j hi hj hij
  have hi' : i < d.size := by simpa using hi
  have hj' : j < d.size := by simpa using hj
  have := h i j (Nat.zero_le _) hij (by omega)
  simpa [hi', hj'] using this

/-! ### The loop's state -/
structure UAt (W : World) (rv : Value) (xs : List Org) (k : Nat) (wr : World) (g c : Nat) : Prop where
  cell : wr.cell? ⟨W.heap.size + 2, 0, none⟩ = some (.slice (some ⟨g, 0, none⟩) (firstsO (xs.take k)).length c)
  free : wr.frozen? ⟨W.heap.size + 2, 0, none⟩ = false
  row : ORow (W.heap.size + 1) wr (.slice (some ⟨g, 0, none⟩) (firstsO (xs.take k)).length c) (firstsO (xs.take k))
  apart : W.heap.size < g ∧ g ≠ W.heap.size + 2 ∧ rv.ownBlock ≠ some g
  keys : ∃ ks, SetAt wr Try.prog 47 W.heap.size ks ∧ ∀ o : Org, keyV o ∈ ks ↔ o ∈ xs.take k
  src : ORow (W.heap.size + 3) wr rv xs
  later : Later W wr
theorem UAt.on {W wr w1 : World} {rv : Value} {xs : List Org} {k g c : Nat} (h : UAt W rv xs k wr g c) (hb : Later wr w1) : UAt W rv xs k w1 g c := by
  obtain ⟨ks, h1, h2⟩ := h.keys
  exact ⟨kept_cell hb h.cell, kept_free hb (World.block_lt_of_cell? wr _ h.cell) h.free, h.row.later hb, h.apart, ⟨ks, h1.keep (Below.block hb _ h1.lt), h2⟩, h.src.later hb, h.later.trans hb⟩
theorem UAt.hit {W wr : World} {rv : Value} {xs : List Org} {k g c : Nat} (h : UAt W rv xs k wr g c) (hk : k < xs.length) (hm : xs[k] ∈ xs.take k) : UAt W rv xs (k + 1) wr g c := by
  have e := firstsO_hit hk hm
  obtain ⟨ks, h1, h2⟩ := h.keys
  refine ⟨by rw [e]; exact h.cell, h.free, by rw [e]; exact h.row, h.apart, ⟨ks, h1, fun o => ?_⟩, h.src, h.later⟩
  rw [h2, List.take_succ_eq_append_getElem hk, List.mem_append, List.mem_singleton]
  exact ⟨.inl, fun q => q.elim id fun e => e ▸ hm⟩
/-- The set has the new origin, the row has it not yet. -/
structure UMid (W : World) (rv : Value) (xs : List Org) (k : Nat) (wr : World) (g c : Nat) : Prop where
  cell : wr.cell? ⟨W.heap.size + 2, 0, none⟩ = some (.slice (some ⟨g, 0, none⟩) (firstsO (xs.take k)).length c)
  free : wr.frozen? ⟨W.heap.size + 2, 0, none⟩ = false
  row : ORow (W.heap.size + 1) wr (.slice (some ⟨g, 0, none⟩) (firstsO (xs.take k)).length c) (firstsO (xs.take k))
  apart : W.heap.size < g ∧ g ≠ W.heap.size + 2 ∧ rv.ownBlock ≠ some g
  keys : ∃ ks, SetAt wr Try.prog 47 W.heap.size ks ∧ ∀ o : Org, keyV o ∈ ks ↔ o ∈ xs.take (k + 1)
  src : ORow (W.heap.size + 3) wr rv xs
  later : Later W wr
theorem UMid.on {W wr w1 : World} {rv : Value} {xs : List Org} {k g c : Nat} (h : UMid W rv xs k wr g c) (hb : Later wr w1) : UMid W rv xs k w1 g c := by
  obtain ⟨ks, h1, h2⟩ := h.keys
  exact ⟨kept_cell hb h.cell, kept_free hb (World.block_lt_of_cell? wr _ h.cell) h.free, h.row.later hb, h.apart, ⟨ks, h1.keep (Below.block hb _ h1.lt), h2⟩, h.src.later hb, h.later.trans hb⟩
theorem UAt.put {W wr w1 : World} {rv : Value} {xs : List Org} {k g c : Nat} (h : UAt W rv xs k wr g c) (hk : k < xs.length) {ks : List Value} (hks : ∀ o : Org, keyV o ∈ ks ↔ o ∈ xs.take k) (hs : SetAt w1 Try.prog 47 W.heap.size (keyV xs[k] :: ks)) (hg : wr.grownBy w1 (some W.heap.size)) : UMid W rv xs k w1 g c := by
  have hb := fun i (hi : i < wr.heap.size) (hne : i ≠ W.heap.size) => hg.block i hi (fun e => hne (by simpa using e))
  have hlt : W.heap.size + 2 < wr.heap.size := World.block_lt_of_cell? wr _ h.cell
  refine ⟨(World.cell?_of_block (w := wr) (a := ⟨_, _, none⟩) (hb (W.heap.size + 2) hlt (by omega))).trans h.cell, (World.frozen?_of_block (w := wr) (a := ⟨_, _, none⟩) (hb (W.heap.size + 2) hlt (by omega))).trans h.free, World.ownsRow.kept h.row hg (.inr (by have := h.apart.1; simp [Value.ownBlock]; omega)), h.apart, ⟨_, hs, fun o => ?_⟩, row_block h.src fun q hq => hb q (World.ownsRow.lt h.src q hq).2 (by have := (World.ownsRow.lt h.src q hq).1; omega), Below.grown h.later hg h.later.size (fun q hq => by cases hq; exact Nat.le_refl _)⟩
  · rw [List.take_succ_eq_append_getElem hk, List.mem_append, List.mem_singleton, List.mem_cons, hks]
    constructor
    · rintro (e | e)
      · exact .inr (keyV_inj e)
      · exact .inl e
    · rintro (e | e)
      · exact .inr e
      · exact .inl (by rw [e])
/-- The new origin appended, the slice stored. -/
theorem UMid.push {W wr w1 : World} {rv : Value} {xs : List Org} {k g c g' c' : Nat} {x0 x1 : Int} (h : UMid W rv xs k wr g c) (hk : k < xs.length) (hm : xs[k] ∉ xs.take k) (hx : xs[k] = (x0, x1))
    (ho : w1.ownsRow (W.heap.size + 1) 47 2 (.slice (some ⟨g', 0, none⟩) ((firstsO (xs.take k)).length + 1) c') ((firstsO (xs.take k)).length + 1) ((firstsO (xs.take k)).flatMap cellsO ++ [.int .i64 x0, .int .i64 x1]))
    (hg : wr.grownBy w1 (some g)) (hat : some g = some g' ∨ g' = wr.heap.size) :
    UAt W rv xs (k + 1) (w1.setCell ⟨W.heap.size + 2, 0, none⟩ (.slice (some ⟨g', 0, none⟩) ((firstsO (xs.take k)).length + 1) c')) g' c' := by
  have e := firstsO_new hk hm
  rw [hx] at e
  have hb := fun i (hi : i < wr.heap.size) (hne : i ≠ g) => hg.block i hi (fun e => hne (by simpa using e))
  have hlt : W.heap.size + 2 < wr.heap.size := World.block_lt_of_cell? wr _ h.cell
  have hap := h.apart
  have hg' : W.heap.size < g' ∧ g' ≠ W.heap.size + 2 ∧ rv.ownBlock ≠ some g' := by
    rcases hat with q | q
    · cases q; exact hap
    · subst q
      have := h.later.size
      exact ⟨by omega, by omega, fun q => by have := (World.ownsRow.lt h.src _ q).2; omega⟩
  have hc1 : w1.cell? ⟨W.heap.size + 2, 0, none⟩ = some (.slice (some ⟨g, 0, none⟩) (firstsO (xs.take k)).length c) := (World.cell?_of_block (w := wr) (a := ⟨_, _, none⟩) (hb (W.heap.size + 2) hlt (by omega))).trans h.cell
  have hf1 : w1.frozen? ⟨W.heap.size + 2, 0, none⟩ = false := (World.frozen?_of_block (w := wr) (a := ⟨_, _, none⟩) (hb (W.heap.size + 2) hlt (by omega))).trans h.free
  have hl1 : Later W w1 := Below.grown h.later hg h.later.size (fun q hq => by cases hq; omega)
  have hS : Chg (fun b => b = W.heap.size + 2) w1 (w1.setCell ⟨W.heap.size + 2, 0, none⟩ (.slice (some ⟨g', 0, none⟩) ((firstsO (xs.take k)).length + 1) c')) := (Chg.rfl' _ w1).set rfl
  obtain ⟨ks, h1, h2⟩ := h.keys
  have hlk := h1.lt
  have hno : (firstsO (xs.take k) ++ [(x0, x1)]).length = (firstsO (xs.take k)).length + 1 := by rw [List.length_append]; rfl
  refine ⟨?_, by rw [World.frozen?_setCell]; exact hf1, ?_, hg', ⟨ks, h1.keep ((hS.block W.heap.size (by have := hl1.size; have := hg.size; omega) (by omega)).trans (hb W.heap.size hlk (by omega))), h2⟩, ?_, Chg.later hl1 hS fun q hq => by omega⟩
  · rw [e, hno]
    exact World.cell?_setCell_same _ _ _ hc1
  · unfold ORow
    rw [e, hno, flat_cells_snoc]
    exact row_block ho fun q hq => hS.block q (World.ownsRow.lt ho q hq).2 (by simp [Value.ownBlock] at hq; omega)
  · refine row_block (row_block h.src fun q hq => hb q (World.ownsRow.lt h.src q hq).2 (fun e => hap.2.2 (e ▸ hq))) fun q hq => hS.block q ?_ (by have := (World.ownsRow.lt h.src q hq).1; omega)
    have := (World.ownsRow.lt h.src q hq).2
    have := hg.size
    omega
theorem UMid.box {W wr w1 : World} {rv : Value} {xs : List Org} {k g c : Nat} (h : UMid W rv xs k wr g c) (hg : wr.grownBy w1 (some g)) : w1.cell? ⟨W.heap.size + 2, 0, none⟩ = some (.slice (some ⟨g, 0, none⟩) (firstsO (xs.take k)).length c) ∧ w1.frozen? ⟨W.heap.size + 2, 0, none⟩ = false := by
  have hb := fun i (hi : i < wr.heap.size) (hne : i ≠ g) => hg.block i hi (fun e => hne (by simpa using e))
  have hlt : W.heap.size + 2 < wr.heap.size := World.block_lt_of_cell? wr _ h.cell
  have hap := h.apart
  exact ⟨(World.cell?_of_block (w := wr) (a := ⟨_, _, none⟩) (hb (W.heap.size + 2) hlt (by omega))).trans h.cell, (World.frozen?_of_block (w := wr) (a := ⟨_, _, none⟩) (hb (W.heap.size + 2) hlt (by omega))).trans h.free⟩
/-- The three blocks at the start. -/
def startW (W : World) : World := ((W.alloc (.map #[] 0)).alloc (.cells #[] 47)).alloc (.cells #[.slice (some ⟨W.heap.size + 1, 0, none⟩) 0 0] 24)
theorem UAt.start {W w2 : World} {rv : Value} {xs : List Org} (hb : Later (startW W) w2) (hs : ORow (W.heap.size + 3) w2 rv xs) : UAt W rv xs 0 w2 (W.heap.size + 1) 0 := by
  have h0 : Later W (startW W) := (((Later.rfl' W).alloc _).alloc _).alloc _
  have hz : (startW W).heap.size = W.heap.size + 3 := by simp [startW]
  have hr := World.ownsRow_made (base := W.heap.size + 1) (e := 47) (size := 2) (W.alloc (.map #[] 0)) #[] 0 (by simp) (Nat.zero_le _) rfl
  have hr' : ORow (W.heap.size + 1) (startW W) (.slice (some ⟨W.heap.size + 1, 0, none⟩) 0 0) [] := by
    have := ORow.later (l := []) (by simpa [ORow] using hr) ((Later.rfl' _).alloc (.cells #[.slice (some ⟨W.heap.size + 1, 0, none⟩) 0 0] 24))
    simpa [startW] using this
  have hk : SetAt (startW W) Try.prog 47 W.heap.size [] := by
    refine (set_made W Try.prog 47).keep ?_
    have := Below.block (((Later.rfl' (W.alloc (.map #[] 0))).alloc (.cells #[] 47)).alloc (.cells #[.slice (some ⟨W.heap.size + 1, 0, none⟩) 0 0] 24)) W.heap.size (by simp)
    exact this
  have hc : (startW W).cell? ⟨W.heap.size + 2, 0, none⟩ = some (.slice (some ⟨W.heap.size + 1, 0, none⟩) 0 0) := by
    have := (box_alloc ((W.alloc (.map #[] 0)).alloc (.cells #[] 47)) #[.slice (some ⟨W.heap.size + 1, 0, none⟩) 0 0] 24).cell (j := 0) rfl
    simpa [startW] using this
  have hf : (startW W).frozen? ⟨W.heap.size + 2, 0, none⟩ = false := by
    have : (startW W).heap[W.heap.size + 2]? = some (.cells #[.slice (some ⟨W.heap.size + 1, 0, none⟩) 0 0] 24 (0, 0)) := by
      have := heap_alloc_new ((W.alloc (.map #[] 0)).alloc (.cells #[] 47)) (.cells #[.slice (some ⟨W.heap.size + 1, 0, none⟩) 0 0] 24)
      simpa [startW] using this
    simp [World.frozen?, this]
  refine ⟨?_, kept_free hb (by rw [hz]; omega) hf, ?_, ⟨by omega, by omega, fun e => by have := (World.ownsRow.lt hs _ e).1; omega⟩, ⟨[], hk.keep (Below.block hb _ hk.lt), fun o => by simp⟩, hs, h0.trans hb⟩
  · exact kept_cell hb hc
  · exact hr'.later hb
end Go.Proofs.Ytjjmbldgemnhbaa
