/-
  sort.breakPatterns_func (it calls no 'less'): the kit's contract in the form of the other walks.
-/
import Derived.Test.YtjjmbldgemnhbaaYSQ3
import Derived.Test.YtjjmbldgemnhbaaYSL
import Derived.Shelf.SlSortFuncK.BreakPatternsK
import Derived.Sort.LotD1
namespace Go.Proofs.Ytjjmbldgemnhbaa
open Go.RowKit Go.ChangeShapes Go.WideShapes Go.Sort
set_option linter.unusedVariables false
set_option linter.unusedSimpArgs false

theorem SR.sortWorld {W0 W : World} {blk n m : Nat} {d d' : Array Org} {os : Array Obj} (h : SR W0 blk n W d) (hs : d'.size = d.size) (hblk : blk < W.heap.size) : SR W0 blk n (sortWorldK cellsO 2 W blk 0 m d' os) d' := by
  refine ⟨h.chg.trans ?_, holdsK_sortWorldK cellsO 2 W blk 0 m d d' os hblk h.row hs, hs.trans h.size, h.same.trans ?_⟩
  rotate_left
  · intro cur e fz h0
    obtain ⟨c1, h1, e1⟩ := Same.map blk (Sort.ahead W m) (putCells id 0 (flatK cellsO 2 d')) (fun c => by simp [putCells]) cur e fz h0
    refine ⟨c1, ?_, e1⟩
    unfold sortWorldK
    have hlt : blk < (putRowK cellsO 2 (Sort.ahead W m) blk 0 d').heap.size := by rw [size_putRowK]; exact hblk
    show ((putRowK cellsO 2 (Sort.ahead W m) blk 0 d').heap ++ os)[blk]? = _
    rw [Array.getElem?_append_left hlt]
    exact h1
  unfold sortWorldK
  refine ⟨rfl, rfl, rfl, ?_, ?_⟩
  · rw [size_grow, size_putRowK]; exact Nat.le_add_right _ _
  · intro k hk hne
    have hk' : k < (W.heap.modify blk (onCells (putCells id 0 (flatK cellsO 2 d')))).size := by rw [Array.size_modify]; exact hk
    show ((W.heap.modify blk (onCells (putCells id 0 (flatK cellsO 2 d')))) ++ os)[k]? = W.heap[k]?
    rw [Array.getElem?_append_left hk', Array.getElem?_modify, if_neg (fun e => hne e.symm)]

theorem sqBreak {W0 : World} {blk n : Nat} {lt : Org → Org → Bool} {g sf : Nat} {lb sb : Array Value} (E : SE W0 blk n lt g lb sf sb) {W : World} {d : Array Org} (h : SR W0 blk n W d) (a b : Nat) (hab : a ≤ b) (hb : b ≤ n) :
    Calls Try.prog 60 #[lessSwap g lb sf sb, .int .i64 a, .int .i64 b] W fun e w' => e = .returned (.tuple #[]) ∧ SR W0 blk n w' (breakPatterns d a b) := by
  have hblk : blk < W.heap.size := Nat.lt_of_lt_of_le E.lt0 h.chg.size
  have hc := Any.breakPatterns_func_cells_w (P := Try.prog) (ρ := Try.laysGg6_ren) { slLays with } cellsO 2 cellsO_len (.func g) #[] lb sf sb blk 0 a b d W (by rw [h.size]; exact E.swapK) h.row hblk hab (by rw [h.size]; exact hb) (by rw [h.size]; exact E.small)
  refine Calls.mono (show Calls Try.prog 60 _ W _ from hc) ?_
  rintro e w' ⟨rfl, m, os, rfl⟩
  exact ⟨rfl, h.sortWorld (breakPatterns_holds d a b hab (by rw [h.size]; exact hb)).1 hblk⟩
end Go.Proofs.Ytjjmbldgemnhbaa
