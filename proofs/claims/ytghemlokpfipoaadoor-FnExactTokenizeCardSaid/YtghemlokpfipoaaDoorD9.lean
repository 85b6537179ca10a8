/-
  Marks: markStringS, markRowS, markValueS, markValue.
-/
import Derived.Test.YtghemlokpfipoaaDoorD8
namespace Go.Proofs.YtghemlokpfipoaaDoor
open Go.ChangeShapes Go.WideShapes Go.ChangeAt Go.RowKit
set_option linter.unusedVariables false
set_option linter.unusedSimpArgs false

theorem size_markB (k : Nat) : (markB k).size ≤ k + 2 := by
  unfold markB
  split
  · show 2 ≤ _; omega
  · rw [ByteArray.size_append]
    have := size_digB k
    show 1 + _ ≤ _
    omega
theorem markTextX (x : Int) (k : Nat) (hx : x = (k : Int)) (hk : k ≤ 1099511627776) (W : World) : Calls Tryd.prog 19 #[.int .i64 x] W fun r w' => r = .returned (.string (markB k)) ∧ Later W w' := by
  subst hx
  exact markText k W hk

theorem marksQ_at {fn : FuncId} {s n : Nat} {ds : List Dt} (h : MarksQ fn s n ds) {x : Int} (k : Nat) (hx : x = (k : Int)) (hk : k + Dt.cnts ds ≤ 1099511627776) {W : World} {S : Nat → Prop} {v : Value} (ho : Own W S (.sl s n ds) v) :
    Calls Tryd.prog fn #[v, .int .i64 x] W fun r w' => r = .returned (.int .i64 ((k + Dt.cnts ds : Nat) : Int)) ∧ Own w' S (.sl s n (Dt.marks markB ds k)) v ∧ Chg S W w' := by
  subst hx
  exact h k W S v hk ho

end Go.Proofs.YtghemlokpfipoaaDoor
