/-
  Values: IsTrue, ColumnIndex, SizeOf, DepthOf: the walks.
-/
import Derived.Test.YtjjmbldgemnhbaaYMD
namespace Go.Proofs.Ytjjmbldgemnhbaa
open Go.ChangeShapes Go.WideShapes Go.ChangeAt Go.RowKit
set_option linter.unusedVariables false
set_option linter.unusedSimpArgs false

def Vl.kind : Vl → Int | .mk k _ _ _ _ _ _ => k
def Vl.n : Vl → Int | .mk _ n _ _ _ _ _ => n
def Vl.cols : Vl → List ByteArray | .mk _ _ _ _ _ c _ => c
def Vl.list : Vl → List Vl | .mk _ _ _ _ l _ _ => l
def Vl.rows : Vl → List Rw | .mk _ _ _ _ _ _ r => r
def isTrueB (d : Vl) : Bool := decide (d.kind = 1) && decide (d.n ≠ 0)




mutual
def Vl.size : Vl → Nat
  | .mk _ _ _ t l c r => (1 + t.size + c.length) + Vl.sizes l + sumN Rw.cost r
def Vl.sizes : List Vl → Nat
  | [] => 0
  | v :: vs => v.size + Vl.sizes vs
end
theorem sizes_eq : ∀ l : List Vl, Vl.sizes l = sumN Vl.size l
  | [] => rfl
  | v :: vs => by rw [Vl.sizes, sizes_eq vs]; rfl
theorem sumN_mono {α : Type} {f g : α → Nat} {l : List α} (h : ∀ x, x ∈ l → f x ≤ g x) : sumN f l ≤ sumN g l := by
  unfold sumN
  induction l with
  | nil => simp
  | cons x l ih =>
    simp only [List.map_cons, List.sum_cons]
    have h1 := h x (by simp)
    have h2 := ih fun y hy => h y (by simp [hy])
    omega
theorem sumN_add {α : Type} (f g : α → Nat) (l : List α) : sumN (fun x => f x + g x) l = sumN f l + sumN g l := by
  unfold sumN
  induction l with
  | nil => simp
  | cons x l ih => simp only [List.map_cons, List.sum_cons, ih]; omega
theorem sumN_one {α : Type} (l : List α) : sumN (fun _ => 1) l = l.length := by
  unfold sumN
  induction l with
  | nil => simp
  | cons x l ih => simp only [List.map_cons, List.sum_cons, ih, List.length_cons]; omega
theorem size_le : ∀ d : Vl, d.size ≤ 1 + d.cost := by
  refine Vl.ind fun k n s t l c r ih => ?_
  rw [Vl.cost_mk, Vl.size, sizes_eq]
  have h1 := sumN_mono (g := fun x => 1 + Vl.cost x) ih
  rw [sumN_add, sumN_one] at h1
  have : c.length ≤ costS c := by unfold costS; omega
  omega
mutual
def Vl.depth : Vl → Nat
  | .mk _ _ _ _ l _ _ => Vl.depths l + 1
def Vl.depths : List Vl → Nat
  | [] => 0
  | v :: vs => max v.depth (Vl.depths vs)
end
theorem vdepths_append (a b : List Vl) : Vl.depths (a ++ b) = max (Vl.depths a) (Vl.depths b) := by
  induction a with
  | nil => simp [Vl.depths]
  | cons e es ih => simp only [List.cons_append, Vl.depths, ih]; omega
theorem vdepths_succ {l : List Vl} {k : Nat} (hk : k < l.length) : Vl.depths (l.take (k + 1)) = max (Vl.depths (l.take k)) l[k].depth := by
  rw [List.take_succ_eq_append_getElem hk, vdepths_append]; simp [Vl.depths]
theorem vdepths_le (l : List Vl) (k : Nat) : Vl.depths (l.take k) ≤ Vl.depths l := by
  conv => rhs; rw [← List.take_append_drop k l, vdepths_append]
  exact Nat.le_max_left _ _
theorem vdepth_mem {l : List Vl} {x : Vl} (h : x ∈ l) : x.depth ≤ Vl.depths l := by
  induction l with
  | nil => simp at h
  | cons y l ih =>
    rw [Vl.depths]
    rcases List.mem_cons.1 h with rfl | h
    · omega
    · have := ih h; omega
theorem depth_le : ∀ d : Vl, d.depth ≤ 1 + d.cost := by
  refine Vl.ind fun k n s t l c r ih => ?_
  rw [Vl.cost_mk, Vl.depth]
  have : Vl.depths l ≤ l.length + sumN Vl.cost l := by
    clear t c r k n s
    induction l with
    | nil => simp [Vl.depths]
    | cons v l ih2 =>
      have h1 := ih v (by simp)
      have h2 := ih2 fun x hx => ih x (by simp [hx])
      rw [Vl.depths, List.length_cons]
      have : sumN Vl.cost (v :: l) = v.cost + sumN Vl.cost l := by simp [sumN]
      omega
  omega

def SizeQ (f : FuncId) (d : Vl) : Prop := d.cost ≤ 1099511627776 → ∀ (W : World) (S : Nat → Prop) (cs : List Value), Ats W S (encV d) cs → Calls Try.prog f #[.agg cs.toArray] W fun r w' => r = .returned (.int .i64 (d.size : Int)) ∧ Later W w'
def DepthQ (f : FuncId) (d : Vl) : Prop := d.cost ≤ 1099511627776 → ∀ (W : World) (S : Nat → Prop) (cs : List Value), Ats W S (encV d) cs → Calls Try.prog f #[.agg cs.toArray] W fun r w' => r = .returned (.int .i64 (d.depth : Int)) ∧ Later W w'
end Go.Proofs.Ytjjmbldgemnhbaa
