/-
  sort.Slice with a 'less' that lays blocks: what its functions reckon with: the row's relation; what is asked of 'less' and of 'swap'.
-/
import Derived.Test.YtjjmbldgemnhbaaYUO1
import Derived.Test.YtjjmbldgemnhbaaYD1
import Derived.Shelf.SlSortFuncK.RowK2
import Derived.Shelf.GgSortFunc.InsertionK
import Derived.Sort.LotD3
import Derived.WalkKit
import Derived.BigCall
import Derived.BigGuard
namespace Go.Proofs.Ytjjmbldgemnhbaa
open Go.RowKit Go.ChangeShapes Go.WideShapes Go.Sort
set_option linter.unusedVariables false
set_option linter.unusedSimpArgs false

def cellsO (o : Org) : List Value := [.int .i64 o.1, .int .i64 o.2]
theorem cellsO_len (o : Org) : (cellsO o).length = 2 := rfl
/-- Block blk is still one of cells, of the same type, as long as it was. -/
def Same (blk : Nat) (w w' : World) : Prop := ∀ cur e fz, w.heap[blk]? = some (.cells cur e fz) → ∃ cur', w'.heap[blk]? = some (.cells cur' e fz) ∧ cur'.size = cur.size
theorem Same.rfl' (blk : Nat) (w : World) : Same blk w w := fun cur e fz h => ⟨cur, h, rfl⟩
theorem Same.trans {blk : Nat} {a b c : World} (h : Same blk a b) (k : Same blk b c) : Same blk a c := fun cur e fz h0 => by
  obtain ⟨c1, h1, e1⟩ := h cur e fz h0
  obtain ⟨c2, h2, e2⟩ := k c1 e fz h1
  exact ⟨c2, h2, e2.trans e1⟩
theorem Same.block {blk : Nat} {w w' : World} (h : w'.heap[blk]? = w.heap[blk]?) : Same blk w w' := fun cur e fz h0 => ⟨cur, h.trans h0, rfl⟩
theorem Same.map (blk : Nat) (w : World) (f : Array Value → Array Value) (hf : ∀ c, (f c).size = c.size) : Same blk w (mapBlock w blk f) := fun cur e fz h0 =>
  ⟨f cur, by show (w.heap.modify blk (onCells f))[blk]? = _; rw [Array.getElem?_modify, if_pos rfl, h0]; rfl, hf cur⟩
theorem Same.setCells {b : Nat} : ∀ (vs : List Value) (w : World) (o : Nat), Same b w (w.setCells b o vs)
  | [], w, o => Same.rfl' _ _
  | v :: vs, w, o => by
    have h1 : Same b w (w.setCell ⟨b, o, none⟩ v) := by rw [setCell_eq]; exact Same.map b w _ fun c => Array.size_setIfInBounds
    exact h1.trans (Same.setCells vs _ _)
/-- The world W is W0 but for the row in block blk, which holds d, and for new blocks. -/
structure SR (W0 : World) (blk n : Nat) (W : World) (d : Array Org) : Prop where
  chg : Chg (fun b => b = blk) W0 W
  row : HoldsK cellsO 2 W blk 0 d
  size : d.size = n
  same : Same blk W0 W
theorem SR.later {W0 W W' : World} {blk n : Nat} {d : Array Org} (h : SR W0 blk n W d) (hb : Later W W') : SR W0 blk n W' d :=
  ⟨h.chg.trans (hb.chg _), fun j hj => by
    obtain ⟨h1, h2⟩ := h.row j hj
    exact ⟨kept_cell hb h1, kept_free hb (World.block_lt_of_cell? W _ h1) h2⟩, h.size, fun cur e fz h0 => by
    obtain ⟨c1, h1, e1⟩ := h.same cur e fz h0
    exact ⟨c1, (Below.block hb blk (Array.getElem?_eq_some_iff.1 h1).1).trans h1, e1⟩⟩
/-- .. where blocks have turned that are neither old nor the row's. -/
theorem SR.more {W0 W W' : World} {blk n : Nat} {d : Array Org} {S : Nat → Prop} (h : SR W0 blk n W d) (c : Chg S W W') (hS : ∀ b, S b → W0.heap.size ≤ b) (hn : ¬ S blk) : SR W0 blk n W' d :=
  ⟨⟨c.os.trans h.chg.os, c.tape.trans h.chg.tape, c.output.trans h.chg.output, Nat.le_trans h.chg.size c.size, fun k hk hne => (c.block k (Nat.lt_of_lt_of_le hk h.chg.size) fun e => by have := hS k e; omega).trans (h.chg.block k hk hne)⟩, fun j hj => by
    obtain ⟨h1, h2⟩ := h.row j hj
    have hlt := World.block_lt_of_cell? W _ h1
    have e := c.block blk hlt hn
    exact ⟨(World.cell?_of_block (w := W) (a := ⟨blk, _, none⟩) e).trans h1, (World.frozen?_of_block (w := W) (a := ⟨blk, _, none⟩) e).trans h2⟩, h.size, fun cur e fz h0 => by
    obtain ⟨c1, h1, e1⟩ := h.same cur e fz h0
    exact ⟨c1, (c.block blk (Array.getElem?_eq_some_iff.1 h1).1 hn).trans h1, e1⟩⟩
theorem chg_setCells {b : Nat} : ∀ (vs : List Value) (w : World) (o : Nat), Chg (fun k => k = b) w (w.setCells b o vs)
  | [], w, o => Chg.rfl' _ _
  | v :: vs, w, o => ((Chg.rfl' (fun k => k = b) w).set rfl).trans (chg_setCells vs _ _)
/-- The swap's stores. -/
def swapW (W : World) (blk : Nat) (d : Array Org) (i j : Nat) : World := (W.setCells blk (0 + i * 2) (cellsO d[j]!)).setCells blk (0 + j * 2) (cellsO d[i]!)
theorem SR.swap {W0 W : World} {blk n : Nat} {d : Array Org} (h : SR W0 blk n W d) {i j : Nat} (hi : i < n) (hj : j < n) : SR W0 blk n (swapW W blk d i j) (swp d i j) := by
  have hi' : i < d.size := by rw [h.size]; exact hi
  have hj' : j < d.size := by rw [h.size]; exact hj
  refine ⟨h.chg.trans ((chg_setCells _ _ _).trans (chg_setCells _ _ _)), ?_, by rw [size_swp]; exact h.size, h.same.trans ((Same.setCells _ _ _).trans (Same.setCells _ _ _))⟩
  have e := putRowK_swp cellsO 2 cellsO_len W blk 0 d i j hi' hj'
  rw [putRowK_self _ _ _ _ _ _ h.row] at e
  unfold swapW
  rw [e]
  exact holdsK_putRowK cellsO 2 W blk 0 d (swp d i j) h.row (size_swp d i j)
theorem SR.far {W : World} {blk : Nat} {d : Array Org} (i j : Nat) {b o : Nat} {u : Value} (h : W.cell? ⟨b, o, none⟩ = some u) (hb : b ≠ blk) : (swapW W blk d i j).cell? ⟨b, o, none⟩ = some u := by
  have c := (chg_setCells (b := blk) (cellsO d[j]!) W (0 + i * 2)).trans (chg_setCells (b := blk) (cellsO d[i]!) _ (0 + j * 2))
  exact (World.cell?_of_block (w := W) (a := ⟨b, o, none⟩) (c.block b (World.block_lt_of_cell? W _ h) hb)).trans h
/-- What the sort leans on: 'less' (function g, bound to lb) answers by the row, lays what it likes; 'swap' (function sf, bound to sb) makes the two runs of stores. -/
structure SE (W0 : World) (blk n : Nat) (lt : Org → Org → Bool) (g : Nat) (lb : Array Value) (sf : Nat) (sb : Array Value) : Prop where
  lt0 : blk < W0.heap.size
  small : n < 4611686018427387904
  enter : ∀ args w, (callFunc g args).run Try.prog w = .ok (.enter g args) w
  less : ∀ (W : World) (d : Array Org), SR W0 blk n W d → ∀ i j : Nat, i < n → j < n → Calls Try.prog g (#[.int .i64 (i : Int), .int .i64 (j : Int)] ++ lb) W fun r w' => r = .returned (.bool (lt d[i]! d[j]!)) ∧ Later W w'
  swap : ∀ (W : World) (d : Array Org), SR W0 blk n W d → ∀ i j : Nat, i < n → j < n → (callFunc sf (#[.int .i64 (i : Int), .int .i64 (j : Int)] ++ sb)).run Try.prog W = .ok (.value (.tuple #[])) (swapW W blk d i j)
  swapK : SwapSwapsK Try.prog sf sb cellsO 2 blk 0 n
/-- The two functions, as the sort's functions are handed them. -/
def lessSwap (g : Nat) (lb : Array Value) (sf : Nat) (sb : Array Value) : Value := .agg #[.func (.func g) #[] lb, .func (.func sf) #[] sb]
end Go.Proofs.Ytjjmbldgemnhbaa
