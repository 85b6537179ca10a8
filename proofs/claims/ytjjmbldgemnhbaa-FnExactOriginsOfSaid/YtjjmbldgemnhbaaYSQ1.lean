/-
  sort.insertionSort_func with a 'less' that lays blocks.
-/
import Derived.Test.YtjjmbldgemnhbaaYSQ0
import Derived.Sort.WalkA
namespace Go.Proofs.Ytjjmbldgemnhbaa
open Go.RowKit Go.ChangeShapes Go.WideShapes Go.Sort
set_option linter.unusedVariables false
set_option linter.unusedSimpArgs false

/-- The block that the parameter 'data' is laid in. -/
def DB (q g : Nat) (lb : Array Value) (sf : Nat) (sb : Array Value) (w : World) : Prop := w.cell? ⟨q, 0, none⟩ = some (.func (.func g) #[] lb) ∧ w.cell? ⟨q, 1, none⟩ = some (.func (.func sf) #[] sb)
theorem DB.later {q g sf : Nat} {lb sb : Array Value} {w w' : World} (h : DB q g lb sf sb w) (hb : Later w w') : DB q g lb sf sb w' := ⟨kept_cell hb h.1, kept_cell hb h.2⟩
theorem DB.swap {q g sf blk i j : Nat} {lb sb : Array Value} {w : World} {W0 : World} {n : Nat} {d : Array Org} (h : DB q g lb sf sb w) (hs : SR W0 blk n w d) (hq : blk < q) : DB q g lb sf sb (swapW w blk d i j) :=
  ⟨SR.far i j h.1 (by omega), SR.far i j h.2 (by omega)⟩
/-- 'less' and 'swap' at two places, the numbers as the walk has them. -/
theorem SE.less_at {W0 W : World} {blk n g sf : Nat} {lb sb : Array Value} {lt : Org → Org → Bool} {d : Array Org} (E : SE W0 blk n lt g lb sf sb) (h : SR W0 blk n W d) {x y : Int} {v : Bool} (i j : Nat) (hx : x = i) (hy : y = j) (hi : i < n) (hj : j < n) (hv : lt d[i]! d[j]! = v) :
    Calls Try.prog g (#[.int .i64 x, .int .i64 y] ++ lb) W fun r w' => r = .returned (.bool v) ∧ Later W w' := by
  subst hx hy hv
  exact E.less W d h i j hi hj
theorem SE.swap_at {W0 W : World} {blk n g sf : Nat} {lb sb : Array Value} {lt : Org → Org → Bool} {d : Array Org} (E : SE W0 blk n lt g lb sf sb) (h : SR W0 blk n W d) {x y : Int} (i j : Nat) (hx : x = i) (hy : y = j) (hi : i < n) (hj : j < n) :
    (callFunc sf (#[.int .i64 x, .int .i64 y] ++ sb)).run Try.prog W = .ok (.value (.tuple #[])) (swapW W blk d i j) := by
  subst hx hy
  exact E.swap W d h i j hi hj

set_option maxHeartbeats 4000000 in
set_option maxRecDepth 1000000 in
theorem sqInsertion {W0 : World} {blk n : Nat} {lt : Org → Org → Bool} {g sf : Nat} {lb sb : Array Value} (E : SE W0 blk n lt g lb sf sb) {W : World} {d : Array Org} (h : SR W0 blk n W d) (a b : Nat) (hab : a ≤ b) (hb : b ≤ n) :
    Calls Try.prog 58 #[lessSwap g lb sf sb, .int .i64 a, .int .i64 b] W fun e w' => e = .returned (.tuple #[]) ∧ SR W0 blk n w' (insertionSort lt d a b) := by
  have EG := E.enter
  have HE := Lib.hid E
  have HH := Lib.hid h
  have hsm := E.small
  have hblk : blk < W.heap.size := Nat.lt_of_lt_of_le E.lt0 h.chg.size
  clear E h
  go_enter Try.func58, Try.ntmps58
  unfold lessSwap
  go_wp2_with fail
  go_loopw [6] (fun vi wr => ∃ (i : Nat) (dk : Array Org), vi = .int .i64 i ∧ a < i ∧ i ≤ b + 1 ∧ DB W.heap.size g lb sf sb wr ∧ SR W0 blk n wr dk ∧ Hid (insOuter lt a b i dk = insOuter lt a b (a + 1) d)) (fun vi _ => b + 1 - (intOf vi).toNat)
  case atStart => exact ⟨a + 1, d, by go_num, by omega, by omega, ⟨by simp, by simp⟩, HH.out.later ((Later.rfl' _).alloc _), rfl⟩
  case round =>
    obtain ⟨i, dk, rfl, hai, hib, hdb, hsr, HO⟩ := hrel
    by_cases hlt : i < b
    · have hltz : (i : Int) < (b : Int) := by omega
      have HS := Lib.hid hsr
      have HDB := Lib.hid hdb
      clear hsr hdb
      go_wp2_with fail
      go_loopw [7] (fun vj wr2 => ∃ (j : Nat) (dj : Array Org), vj = .int .i64 j ∧ a ≤ j ∧ j ≤ i ∧ DB W.heap.size g lb sf sb wr2 ∧ SR W0 blk n wr2 dj ∧ Hid (insInner lt a j dj = insInner lt a i dk)) (fun vj _ => (intOf vj).toNat)
      case atStart => exact ⟨i, dk, rfl, by omega, Nat.le_refl _, HDB.out, HS.out, rfl⟩
      case round =>
        clear HS HDB
        obtain ⟨j, dj, rfl, haj, hji, hdb, hsr, HI⟩ := hrel
        have out : (j ≤ a ∨ lt dj[j]! dj[j - 1]! = false) → insOuter lt a b (i + 1) dj = insOuter lt a b (a + 1) d := fun hs => by
          rw [← HO.out, insOuter_go _ _ _ _ _ hlt, ← HI.out, insInner_stop _ _ _ _ hs]
        have OUT := Lib.hid out
        clear out
        obtain ⟨c0, c1⟩ := hdb
        by_cases hja : a < j
        · have hjaz : (a : Int) < (j : Int) := by omega
          obtain ⟨jp, rfl⟩ : ∃ jp, j = jp + 1 := ⟨j - 1, by omega⟩
          have hless := fun w' (hw : SR W0 blk n w' dj) => HE.out.less_at hw (x := (jp : Int) + 1) (y := (jp : Int)) (jp + 1) jp (by omega) rfl (by omega) (by omega) rfl
          have hswap := fun w' (hw : SR W0 blk n w' dj) => HE.out.swap_at hw (x := (jp : Int) + 1) (y := (jp : Int)) (jp + 1) jp (by omega) rfl (by omega) (by omega)
          have hl := hless _ hsr
          have HSW := Lib.hid hswap
          have HS := Lib.hid hsr
          clear hsr hless hswap
          cases hv : lt dj[jp + 1]! dj[jp]! with
          | true =>
            rw [hv] at hl
            go_wp2_with fail
            refine hl.mono ?_; rintro e w1 ⟨rfl, hb1⟩
            have hs1 := HSW.out _ (HS.out.later hb1)
            have c0' := kept_cell hb1 c0
            have c1' := kept_cell hb1 c1
            go_wp2_with fail
            have hsr1 := HS.out.later hb1
            refine ⟨⟨jp, swp dj (jp + 1) jp, rfl, by omega, by omega, DB.swap ⟨c0', c1'⟩ hsr1 hblk, hsr1.swap (by omega) (by omega), ?_⟩, by simp [intOf]⟩
            show _ = _
            rw [← HI.out, insInner_go lt a (jp + 1) dj hja hv]
            rfl
          | false =>
            rw [hv] at hl
            go_wp2_with fail
            refine hl.mono ?_; rintro e w1 ⟨rfl, hb1⟩
            have c0' := kept_cell hb1 c0
            have c1' := kept_cell hb1 c1
            go_wp2_with fail
            refine ⟨⟨i + 1, dj, by go_num, by omega, by omega, ⟨c0', c1'⟩, HS.out.later hb1, ?_⟩, by simp [intOf]; omega⟩
            exact OUT.out (.inr hv)
        · have hjaz : ¬ (a : Int) < (j : Int) := by omega
          have HS := Lib.hid hsr
          clear hsr
          go_wp2_with fail
          refine ⟨⟨i + 1, dj, by go_num, by omega, by omega, ⟨c0, c1⟩, HS.out, ?_⟩, by simp [intOf]; omega⟩
          exact OUT.out (.inl (by omega))
    · have hltz : ¬ (i : Int) < (b : Int) := by omega
      have HS := Lib.hid hsr
      clear hsr
      go_wp2_with fail
      go_end0
      refine ⟨rfl, ?_⟩
      have e : insertionSort lt d a b = dk := by rw [insertionSort, ← HO.out, insOuter_stop _ _ _ _ _ hlt]
      rw [e]
      exact HS.out
end Go.Proofs.Ytjjmbldgemnhbaa
