/-
  sort.order2_func, median_func, medianAdjacent_func, choosePivot_func with a 'less' that lays blocks.
-/
import Derived.Test.YtjjmbldgemnhbaaYSQ3
import Derived.Sort.LotD4
namespace Go.Proofs.Ytjjmbldgemnhbaa
open Go.RowKit Go.ChangeShapes Go.WideShapes Go.Sort
set_option linter.unusedVariables false
set_option linter.unusedSimpArgs false

/-- The count of swaps. -/
def CT (q s : Nat) (w : World) : Prop := w.cell? ⟨q, 0, none⟩ = some (.int .i64 (s : Int)) ∧ w.frozen? ⟨q, 0, none⟩ = false
theorem CT.later {q s : Nat} {w w' : World} (h : CT q s w) (hb : Later w w') : CT q s w' := ⟨kept_cell hb h.1, kept_free hb (World.block_lt_of_cell? w _ h.1) h.2⟩
theorem chg_cell {S : Nat → Prop} {W W' : World} (c : Chg S W W') {b o : Nat} {u : Value} (hc : W.cell? ⟨b, o, none⟩ = some u) (hb : ¬ S b) : W'.cell? ⟨b, o, none⟩ = some u :=
  (World.cell?_of_block (w := W) (a := ⟨b, o, none⟩) (c.block b (World.block_lt_of_cell? W _ hc) hb)).trans hc

set_option maxHeartbeats 4000000 in
set_option maxRecDepth 1000000 in
theorem sqOrder2 {W0 : World} {blk n : Nat} {lt : Org → Org → Bool} {g sf : Nat} {lb sb : Array Value} (E : SE W0 blk n lt g lb sf sb) {W : World} {d : Array Org} (h : SR W0 blk n W d) {q s : Nat} (hq0 : W0.heap.size ≤ q) (hct : CT q s W) (hs : s ≤ 1000) (a b : Nat) (ha : a < n) (hb : b < n) :
    Calls Try.prog 74 #[lessSwap g lb sf sb, .int .i64 a, .int .i64 b, .pointer (some ⟨q, 0, none⟩)] W fun e w' => e = .returned (.tuple #[.int .i64 (order2 lt d a b s).1, .int .i64 (order2 lt d a b s).2.1]) ∧ CT q (order2 lt d a b s).2.2 w' ∧ Chg (fun k => k = q) W w' := by
  have EG := E.enter
  have HE := Lib.hid E
  have hsm := E.small
  have hqb : q ≠ blk := by have := E.lt0; omega
  have hql : q < W.heap.size := World.block_lt_of_cell? W _ hct.1
  have hblk : blk < W.heap.size := Nat.lt_of_lt_of_le E.lt0 h.chg.size
  have h1 := Lib.hid (h.later ((Later.rfl' W).alloc (.cells #[.func (.func g) #[] lb, .func (.func sf) #[] sb] 80)))
  have hct1 := hct.later ((Later.rfl' W).alloc (.cells #[.func (.func g) #[] lb, .func (.func sf) #[] sb] 80))
  have HW := Lib.hid ((Later.rfl' W).alloc (.cells #[.func (.func g) #[] lb, .func (.func sf) #[] sb] 80))
  clear E h hct
  cases hv : lt d[b]! d[a]! with
  | true =>
    have hl := HE.out.less_at h1.out (x := (b : Int)) (y := (a : Int)) b a rfl rfl hb ha hv
    rw [show order2 lt d a b s = (b, a, s + 1) by rw [order2, hv]; rfl]
    go_enter Try.func74, Try.ntmps74
    unfold lessSwap
    go_wp2_with fail
    refine hl.mono ?_; rintro e w1 ⟨rfl, hb1⟩
    obtain ⟨hc0, hc1⟩ := hct1.later hb1
    go_wp2_with fail
    go_ret2
    refine ⟨rfl, ⟨?_, by rw [World.frozen?_setCell]; exact hc1⟩, ((HW.out.trans hb1).chg _).set rfl⟩
    rw [World.cell?_setCell_same _ _ _ hc0]
    rfl
  | false =>
    have hl := HE.out.less_at h1.out (x := (b : Int)) (y := (a : Int)) b a rfl rfl hb ha hv
    rw [show order2 lt d a b s = (a, b, s) by rw [order2, hv]; rfl]
    go_enter Try.func74, Try.ntmps74
    unfold lessSwap
    go_wp2_with fail
    refine hl.mono ?_; rintro e w1 ⟨rfl, hb1⟩
    obtain ⟨hc0, hc1⟩ := hct1.later hb1
    go_wp2_with fail
    go_ret2
    exact ⟨rfl, ⟨hc0, hc1⟩, (HW.out.trans hb1).chg _⟩

theorem SR.ct {W0 W W' : World} {blk n q : Nat} {d : Array Org} (h : SR W0 blk n W d) (c : Chg (fun k => k = q) W W') (hq0 : W0.heap.size ≤ q) (hqb : q ≠ blk) : SR W0 blk n W' d :=
  h.more c (fun b e => by subst e; exact hq0) (fun e => hqb e.symm)

set_option maxHeartbeats 4000000 in
set_option maxRecDepth 1000000 in
theorem sqMedian {W0 : World} {blk n : Nat} {lt : Org → Org → Bool} {g sf : Nat} {lb sb : Array Value} (E : SE W0 blk n lt g lb sf sb) {W : World} {d : Array Org} (h : SR W0 blk n W d) {q s : Nat} (hq0 : W0.heap.size ≤ q) (hct : CT q s W) (hs : s ≤ 900) (a b c : Nat) (ha : a < n) (hb : b < n) (hc : c < n) :
    Calls Try.prog 73 #[lessSwap g lb sf sb, .int .i64 a, .int .i64 b, .int .i64 c, .pointer (some ⟨q, 0, none⟩)] W fun e w' => e = .returned (.int .i64 (median lt d a b c s).1) ∧ CT q (median lt d a b c s).2 w' ∧ Chg (fun k => k = q) W w' := by
  have HE := Lib.hid E
  have hsm := E.small
  have hqb : q ≠ blk := by have := E.lt0; omega
  have hql : q < W.heap.size := World.block_lt_of_cell? W _ hct.1
  have h1 := Lib.hid (h.later ((Later.rfl' W).alloc (.cells #[.func (.func g) #[] lb, .func (.func sf) #[] sb] 80)))
  have hct1 := hct.later ((Later.rfl' W).alloc (.cells #[.func (.func g) #[] lb, .func (.func sf) #[] sb] 80))
  have HW := Lib.hid ((Later.rfl' W).alloc (.cells #[.func (.func g) #[] lb, .func (.func sf) #[] sb] 80))
  have C1 := sqOrder2 E h1.out hq0 hct1 (by omega) a b ha hb
  have m1 := order2_mem lt d a b s
  have n1 := order2_count lt d a b s
  have hmed : median lt d a b c s = ((order2 lt d (order2 lt d a b s).1 (order2 lt d (order2 lt d a b s).2.1 c (order2 lt d a b s).2.2).1 (order2 lt d (order2 lt d a b s).2.1 c (order2 lt d a b s).2.2).2.2).2.1, (order2 lt d (order2 lt d a b s).1 (order2 lt d (order2 lt d a b s).2.1 c (order2 lt d a b s).2.2).1 (order2 lt d (order2 lt d a b s).2.1 c (order2 lt d a b s).2.2).2.2).2.2) := rfl
  rw [hmed]
  clear hmed E h hct
  generalize order2 lt d a b s = r1 at *
  obtain ⟨x1, y1, s1⟩ := r1
  have hx1 : x1 < n := by simp only [] at m1; omega
  have hy1 : y1 < n := by simp only [] at m1; omega
  have m2 := order2_mem lt d y1 c s1
  have n2 := order2_count lt d y1 c s1
  have C2 := fun w (h : SR W0 blk n w d) (k : CT q s1 w) => sqOrder2 HE.out h hq0 k (by simp only [] at n1; omega) y1 c hy1 hc
  simp only [] at *
  generalize order2 lt d y1 c s1 = r2 at *
  obtain ⟨x2, y2, s2⟩ := r2
  have hx2 : x2 < n := by simp only [] at m2; omega
  have C3 := fun w (h : SR W0 blk n w d) (k : CT q s2 w) => sqOrder2 HE.out h hq0 k (by simp only [] at n2; omega) x1 x2 hx1 hx2
  simp only [] at *
  generalize order2 lt d x1 x2 s2 = r3 at *
  obtain ⟨x3, y3, s3⟩ := r3
  simp only [] at *
  have c0 : (W.alloc (.cells #[.func (.func g) #[] lb, .func (.func sf) #[] sb] 80)).cell? ⟨W.heap.size, 0, none⟩ = some (.func (.func g) #[] lb) := by simp
  have c1 : (W.alloc (.cells #[.func (.func g) #[] lb, .func (.func sf) #[] sb] 80)).cell? ⟨W.heap.size, 1, none⟩ = some (.func (.func sf) #[] sb) := by simp
  unfold lessSwap at *
  have HC2 := Lib.hid C2
  have HC3 := Lib.hid C3
  have H0 := Lib.hid c0
  have H1 := Lib.hid c1
  clear C2 C3 m1 n1 m2 n2 hct1 c0 c1
  go_enter Try.func73, Try.ntmps73
  go_wp2_with fail
  refine C1.mono ?_; rintro e w1 ⟨rfl, hk1, hg1⟩
  have c0 := chg_cell hg1 H0.out (by omega)
  have c1 := chg_cell hg1 H1.out (by omega)
  have C2 := HC2.out w1 (h1.out.ct hg1 hq0 hqb) hk1
  clear C1
  go_wp2_with fail
  refine C2.mono ?_; rintro e w2 ⟨rfl, hk2, hg2⟩
  have c2 := chg_cell hg2 c0 (by omega)
  have c3 := chg_cell hg2 c1 (by omega)
  have C3 := HC3.out w2 ((h1.out.ct hg1 hq0 hqb).ct hg2 hq0 hqb) hk2
  clear C2
  go_wp2_with fail
  refine C3.mono ?_; rintro e w3 ⟨rfl, hk3, hg3⟩
  go_wp2_with fail
  go_ret
  exact ⟨rfl, hk3, (((HW.out.chg _).trans hg1).trans hg2).trans hg3⟩

set_option maxHeartbeats 4000000 in
set_option maxRecDepth 1000000 in
theorem sqMedianAdjacent {W0 : World} {blk n : Nat} {lt : Org → Org → Bool} {g sf : Nat} {lb sb : Array Value} (E : SE W0 blk n lt g lb sf sb) {W : World} {d : Array Org} (h : SR W0 blk n W d) {q s : Nat} (hq0 : W0.heap.size ≤ q) (hct : CT q s W) (hs : s ≤ 900) (a : Nat) (ha0 : 0 < a) (ha : a + 1 < n) :
    Calls Try.prog 72 #[lessSwap g lb sf sb, .int .i64 a, .pointer (some ⟨q, 0, none⟩)] W fun e w' => e = .returned (.int .i64 (medianAdjacent lt d a s).1) ∧ CT q (medianAdjacent lt d a s).2 w' ∧ Chg (fun k => k = q) W w' := by
  have hsm := E.small
  have h1 := h.later ((Later.rfl' W).alloc (.cells #[.func (.func g) #[] lb, .func (.func sf) #[] sb] 80))
  have hct1 := hct.later ((Later.rfl' W).alloc (.cells #[.func (.func g) #[] lb, .func (.func sf) #[] sb] 80))
  have HW := Lib.hid ((Later.rfl' W).alloc (.cells #[.func (.func g) #[] lb, .func (.func sf) #[] sb] 80))
  have CM := sqMedian E h1 hq0 hct1 hs (a - 1) a (a + 1) (by omega) (by omega) (by omega)
  rw [show ((a + 1 : Nat) : Int) = (a : Int) + 1 by omega, show ((a - 1 : Nat) : Int) = (a : Int) - 1 by omega] at CM
  unfold lessSwap at *
  clear E h hct hct1 h1
  rw [show medianAdjacent lt d a s = median lt d (a - 1) a (a + 1) s from rfl]
  generalize median lt d (a - 1) a (a + 1) s = r at *
  obtain ⟨x, s'⟩ := r
  simp only [] at *
  go_enter Try.func72, Try.ntmps72
  go_wp2_with fail
  refine CM.mono ?_; rintro e w1 ⟨rfl, hk1, hg1⟩
  go_wp2_with fail
  go_ret
  exact ⟨rfl, hk1, (HW.out.chg _).trans hg1⟩
end Go.Proofs.Ytjjmbldgemnhbaa
