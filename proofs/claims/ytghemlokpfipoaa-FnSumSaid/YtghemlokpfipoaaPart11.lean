/-
  Values: the laws' own equality at equal data: eqIntS, eqOrigin, eqOriginS, eqRow, eqRowS, eqValue, eqValueS. Values: IsTrue, ColumnIndex, SizeOf, DepthOf: the walks.
-/
import Derived.Test.YtghemlokpfipoaaPart10
import Derived.Deep.QuietTactic
import Derived.BigQuiet
import Derived.StillTailTactics
namespace Go.Proofs.Ytghemlokpfipoaa
open Go.ChangeShapes Go.WideShapes Go.ChangeAt Go.RowKit
set_option linter.unusedVariables false
set_option linter.unusedSimpArgs false
set_option maxRecDepth 100000

theorem eqIntS (l : List Int) (W : World) (S S' : Nat → Prop) (v u : Value) (h : SlAt W S 1 encI l v) (h' : SlAt W S' 1 encI l u) : Calls Try.prog 173 #[v, u] W fun r w' => r = .returned (.bool true) ∧ Later W w' := by
  obtain ⟨A, c, rfl, hlc, hcm⟩ := sl_parts h
  obtain ⟨A', c', rfl, hlc', hcm'⟩ := sl_parts h'
  have HE := Lib.hid h; have HE' := Lib.hid h'; clear h h'
  go_enter Try.func173, Try.ntmps173
  go_wp2
  go_loopw [5] (fun i wr => ∃ j : Nat, j ≤ l.length ∧ i = .int .i64 j ∧ Draws W wr) (fun i _ => l.length - (intOf i).toNat)
  case atStart => exact ⟨0, Nat.zero_le _, rfl, Draws.rfl' _⟩
  case round =>
    obtain ⟨j, hj, rfl, hw⟩ := hrel
    by_cases hlt : j < l.length
    · obtain ⟨b, off, rfl, hb, _, e0, _⟩ := (HE.out.later hw.later).intAt hlt
      obtain ⟨b', off', rfl, hb', _, e0', _⟩ := (HE'.out.later hw.later).intAt hlt
      have hki : (j : Int) < (l.length : Int) := by omega
      obtain ⟨X, hX⟩ : ∃ X, X = l[j] := ⟨_, rfl⟩
      rw [← hX] at e0 e0'
      clear hX
      go_wp2
      go_quiet (fail)
      go_wp2
      go_roundw
      case rel => exact ⟨j + 1, by omega, by go_num, hw.trans (Draws.drewN _ _)⟩
      case measure => simp [intOf]; omega
    · go_wp2
      go_ret
      exact ⟨rfl, hw.later⟩

theorem box2 {W w1 : World} {a b : Array Value} {t u : TypeId} (hb : Later ((W.alloc (.cells a t)).alloc (.cells b u)) w1) :
    Box w1 W.heap.size a.toList ∧ Box w1 (W.heap.size + 1) b.toList ∧ W.heap.size + 2 ≤ w1.heap.size ∧ Later W w1 := by
  have h1 := ((box_alloc W a t).later ((Later.rfl' _).alloc (.cells b u))).later hb
  have h2 := (box_alloc (W.alloc (.cells a t)) b u).later hb
  have hs := hb.size
  simp only [World.size_alloc] at h2 hs
  exact ⟨h1, h2, by omega, (((Later.rfl' _).alloc _).alloc _).trans hb⟩

theorem eqOrigin (a b : Int) (W : World) : Calls Try.prog 114 #[.agg #[.int .i64 a, .int .i64 b], .agg #[.int .i64 a, .int .i64 b]] W fun r w' => r = .returned (.bool true) ∧ Later W w' := by
  go_enter Try.func114, Try.ntmps114
  go_wp2_with fail
  go_ret
  exact ⟨rfl, ((Later.rfl' _).alloc _).alloc _⟩

theorem eqOriginS (l : List Org) (W : World) (S S' : Nat → Prop) (v u : Value) (h : SlAt W S 2 encO l v) (h' : SlAt W S' 2 encO l u) : Calls Try.prog 47 #[v, u] W fun r w' => r = .returned (.bool true) ∧ Later W w' := by
  obtain ⟨A, c, rfl, hlc, hcm⟩ := sl_parts h
  obtain ⟨A', c', rfl, hlc', hcm'⟩ := sl_parts h'
  have HE := Lib.hid h; have HE' := Lib.hid h'; clear h h'
  go_enter Try.func47, Try.ntmps47
  go_wp2
  go_loopw [5] (fun i wr => ∃ j : Nat, j ≤ l.length ∧ i = .int .i64 j ∧ Later W wr) (fun i _ => l.length - (intOf i).toNat)
  case atStart => exact ⟨0, Nat.zero_le _, rfl, Later.rfl' _⟩
  case round =>
    obtain ⟨j, hj, rfl, hw⟩ := hrel
    by_cases hlt : j < l.length
    · obtain ⟨b, off, rfl, hb, _, e0, e1, _⟩ := (HE.out.later hw).origAt hlt
      obtain ⟨b', off', rfl, hb', _, e0', e1', _⟩ := (HE'.out.later hw).origAt hlt
      have hki : (j : Int) < (l.length : Int) := by omega
      obtain ⟨X, hX⟩ : ∃ X, X = l[j] := ⟨_, rfl⟩
      rw [← hX] at e0 e0' e1 e1'
      have HW := Lib.hid hw
      clear hX hw
      go_wp2
      go_still_tail 8, (by kernel_rfl)
      go_wp2_with fail
      refine (eqOrigin _ _ _).mono ?_; rintro r w1 ⟨rfl, hb1⟩
      go_wp2_with fail
      go_roundw
      case rel => exact ⟨j + 1, by omega, by go_num, HW.out.trans ((Later.rfl' _).drew.trans hb1)⟩
      case measure => simp [intOf]; omega
    · go_wp2
      go_ret
      exact ⟨rfl, hw⟩

theorem eqRow (x : Rw) (W : World) (S S' : Nat → Prop) (cs cs' : List Value) (h : Ats W S (encR x) cs) (h' : Ats W S' (encR x) cs') : Calls Try.prog 146 #[.agg cs.toArray, .agg cs'.toArray] W fun r w' => r = .returned (.bool true) ∧ Later W w' := by
  obtain ⟨A, c, A', c', rfl, _, _, g1, g2⟩ := h.row
  obtain ⟨B, d, B', d', rfl, _, _, k1, k2⟩ := h'.row
  have C1 := fun W' (hW' : Later W W') => eqIntS x.cells W' S S' _ _ (g1.later hW') (k1.later hW')
  have C2 := fun W' (hW' : Later W W') => eqOriginS x.from_ W' S S' _ _ (g2.later hW') (k2.later hW')
  have H1 := Lib.hid C1
  have H2 := Lib.hid C2
  clear C1 C2 g1 g2 k1 k2 h h'
  go_enter Try.func146, Try.ntmps146
  go_wp2_with fail
  refine (H1.out _ (((Later.rfl' _).alloc _).alloc _)).mono ?_; rintro e w1 ⟨rfl, hb1⟩
  obtain ⟨P, Q, hs, L⟩ := box2 hb1
  have p1 := P.cell (j := 1) rfl
  have q1 := Q.cell (j := 1) rfl
  have HL := Lib.hid L
  clear hb1 P Q hs L
  go_wp2_with fail
  refine (H2.out _ HL.out).mono ?_; rintro e w2 ⟨rfl, hb2⟩
  go_wp2_with fail
  go_ret
  exact ⟨rfl, HL.out.trans hb2⟩

def EqQ (d : Vl) : Prop := ∀ (W : World) (S S' : Nat → Prop) (cs cs' : List Value), Ats W S (encV d) cs → Ats W S' (encV d) cs' → Calls Try.prog 38 #[.agg cs.toArray, .agg cs'.toArray] W fun r w' => r = .returned (.bool true) ∧ Later W w'
def EqRQ (d : Rw) : Prop := ∀ (W : World) (S S' : Nat → Prop) (cs cs' : List Value), Ats W S (encR d) cs → Ats W S' (encR d) cs' → Calls Try.prog 146 #[.agg cs.toArray, .agg cs'.toArray] W fun r w' => r = .returned (.bool true) ∧ Later W w'


theorem eqRowS (l : List Rw) (hq : ∀ x, x ∈ l → EqRQ x) (W : World) (S S' : Nat → Prop) (v u : Value) (h : SlAt W S 2 encR l v) (h' : SlAt W S' 2 encR l u) : Calls Try.prog 102 #[v, u] W fun r w' => r = .returned (.bool true) ∧ Later W w' := by
  obtain ⟨A, c, rfl, hlc, hcm⟩ := sl_parts h
  obtain ⟨A', c', rfl, hlc', hcm'⟩ := sl_parts h'
  have HE := Lib.hid h; have HE' := Lib.hid h'; clear h h'
  have HQ := Lib.hid hq; clear hq
  go_enter Try.func102, Try.ntmps102
  go_wp2
  go_loopw [5] (fun i wr => ∃ j : Nat, j ≤ l.length ∧ i = .int .i64 j ∧ Later W wr) (fun i _ => l.length - (intOf i).toNat)
  case atStart => exact ⟨0, Nat.zero_le _, rfl, Later.rfl' _⟩
  case round =>
    obtain ⟨j, hj, rfl, hw⟩ := hrel
    by_cases hlt : j < l.length
    · obtain ⟨b, off, A1, c1, A2, c2, rfl, hb, _, hx, e0, e1⟩ := (HE.out.later hw).rowAt hlt
      obtain ⟨b', off', B1, d1, B2, d2, rfl, hb', _, hx', g0, g1⟩ := (HE'.out.later hw).rowAt hlt
      have C := fun W' (hW' : Later _ W') => HQ.out l[j] (List.getElem_mem hlt) W' S S' _ _ (hx.later hW') (hx'.later hW')
      have hki : (j : Int) < (l.length : Int) := by omega
      have HC := Lib.hid C
      have HW := Lib.hid hw
      clear C hw hx hx'
      go_wp2
      go_still_tail 8, (by kernel_rfl)
      go_wp2_with fail
      refine (HC.out _ (Later.rfl' _).drew).mono ?_; rintro r w1 ⟨rfl, hb1⟩
      go_wp2_with fail
      go_roundw
      case rel => exact ⟨j + 1, by omega, by go_num, HW.out.trans ((Later.rfl' _).drew.trans hb1)⟩
      case measure => simp [intOf]; omega
    · go_wp2
      go_ret
      exact ⟨rfl, hw⟩

theorem eqValueS (l : List Vl) (hq : ∀ x, x ∈ l → EqQ x) (W : World) (S S' : Nat → Prop) (v u : Value) (h : SlAt W S 7 encV l v) (h' : SlAt W S' 7 encV l u) : Calls Try.prog 39 #[v, u] W fun r w' => r = .returned (.bool true) ∧ Later W w' := by
  obtain ⟨A, c, rfl, hlc, hcm⟩ := sl_parts h
  obtain ⟨A', c', rfl, hlc', hcm'⟩ := sl_parts h'
  have HE := Lib.hid h; have HE' := Lib.hid h'; clear h h'
  have HQ := Lib.hid hq; clear hq
  go_enter Try.func39, Try.ntmps39
  go_wp2
  go_loopw [5] (fun i wr => ∃ j : Nat, j ≤ l.length ∧ i = .int .i64 j ∧ Later W wr) (fun i _ => l.length - (intOf i).toNat)
  case atStart => exact ⟨0, Nat.zero_le _, rfl, Later.rfl' _⟩
  case round =>
    obtain ⟨j, hj, rfl, hw⟩ := hrel
    by_cases hlt : j < l.length
    · obtain ⟨b, off, y0, y1, y2, y3, A1, n1, c1, A2, n2, c2, A3, n3, c3, rfl, hb, _, hx, e0, e1, e2, e3, e4, e5, e6⟩ := (HE.out.later hw).valAt hlt
      obtain ⟨b', off', z0, z1, z2, z3, B1, m1, d1, B2, m2, d2, B3, m3, d3, rfl, hb', _, hx', g0, g1, g2, g3, g4, g5, g6⟩ := (HE'.out.later hw).valAt hlt
      have C := fun W' (hW' : Later _ W') => HQ.out l[j] (List.getElem_mem hlt) W' S S' _ _ (hx.later hW') (hx'.later hW')
      have hki : (j : Int) < (l.length : Int) := by omega
      have HC := Lib.hid C
      have HW := Lib.hid hw
      clear C hw hx hx'
      go_wp2
      go_still_tail 8, (by kernel_rfl)
      go_wp2_with fail
      refine (HC.out _ (Later.rfl' _).drew).mono ?_; rintro r w1 ⟨rfl, hb1⟩
      go_wp2_with fail
      go_roundw
      case rel => exact ⟨j + 1, by omega, by go_num, HW.out.trans ((Later.rfl' _).drew.trans hb1)⟩
      case measure => simp [intOf]; omega
    · go_wp2
      go_ret
      exact ⟨rfl, hw⟩

theorem eqStrs (l : List ByteArray) (W : World) (S S' : Nat → Prop) (v u : Value) (h : SlAt W S 1 encS l v) (h' : SlAt W S' 1 encS l u) : Calls Try.prog 101 #[v, u] W fun r w' => r = .returned (.bool true) ∧ Later W w' := by
  refine (eqStringS v u l l W (sl_strs h) (sl_strs h')).mono ?_
  rintro r w' ⟨rfl, hd⟩
  exact ⟨by simp [eqS], hd.later⟩

theorem eqValue : ∀ d, EqQ d := by
  refine Vl.ind fun k n s t l cl r ih W S S' cs cs' h h' => ?_
  obtain ⟨A1, c1, A2, c2, A3, c3, rfl, hb4, ⟨p1, q1⟩, ⟨p2, q2⟩, ⟨p3, q3⟩, g1, g2, g3⟩ := h.val
  obtain ⟨B1, d1, B2, d2, B3, d3, rfl, _, ⟨p1', q1'⟩, ⟨p2', q2'⟩, ⟨p3', q3'⟩, k1, k2, k3⟩ := h'.val
  have C1 := fun W' (hW' : Later W W') => eqValueS l ih W' S S' _ _ (g1.later hW') (k1.later hW')
  have C2 := fun W' (hW' : Later W W') => eqStrs cl W' S S' _ _ (g2.later hW') (k2.later hW')
  have C3 := fun W' (hW' : Later W W') => eqRowS r (fun x _ => eqRow x) W' S S' _ _ (g3.later hW') (k3.later hW')
  have H1 := Lib.hid C1
  have H2 := Lib.hid C2
  have H3 := Lib.hid C3
  clear C1 C2 C3 g1 g2 g3 k1 k2 k3 h h' ih hb4
  go_enter Try.func38, Try.ntmps38
  go_wp2_with fail
  refine (H1.out _ (((Later.rfl' _).alloc _).alloc _)).mono ?_; rintro e w1 ⟨rfl, hb1⟩
  obtain ⟨P, Q, hs, L⟩ := box2 hb1
  have a1 := P.cell (j := 5) rfl
  have a2 := Q.cell (j := 5) rfl
  have HP := Lib.hid P; have HQ := Lib.hid Q
  have HL := Lib.hid L
  clear hb1 P Q hs L
  go_wp2_with fail
  refine (H2.out _ HL.out).mono ?_; rintro e w2 ⟨rfl, hb2⟩
  have b1 := (HP.out.later hb2).cell (j := 6) rfl
  have b2 := (HQ.out.later hb2).cell (j := 6) rfl
  replace HL := Lib.hid (HL.out.trans hb2)
  clear hb2 a1 a2
  go_wp2_with fail
  refine (H3.out _ HL.out).mono ?_; rintro e w3 ⟨rfl, hb3⟩
  go_wp2_with fail
  go_ret
  exact ⟨rfl, HL.out.trans hb3⟩
end Go.Proofs.Ytghemlokpfipoaa
namespace Go.Proofs.Ytghemlokpfipoaa
open Go.ChangeShapes Go.WideShapes Go.ChangeAt Go.RowKit
set_option linter.unusedVariables false
set_option linter.unusedSimpArgs false

def Vl.kind : Vl → Int | .mk k _ _ _ _ _ _ => k
def Vl.n : Vl → Int | .mk _ n _ _ _ _ _ => n
def Vl.cols : Vl → List ByteArray | .mk _ _ _ _ _ c _ => c
def Vl.list : Vl → List Vl | .mk _ _ _ _ l _ _ => l
def Vl.rows : Vl → List Rw | .mk _ _ _ _ _ _ r => r
def isTrueB (d : Vl) : Bool := decide (d.kind = 1) && decide (d.n ≠ 0)



theorem implIsTrue (d : Vl) (W : World) (S : Nat → Prop) (cs : List Value) (h : Ats W S (encV d) cs) : Calls Try.prog 31 #[.agg cs.toArray] W fun r w' => r = .returned (.bool (isTrueB d)) ∧ Later W w' := by
  obtain ⟨k, n, s, t, l, cl, r, rfl⟩ := Vl.shape d
  obtain ⟨A1, c1, A2, c2, A3, c3, rfl, hb4, ⟨p1, q1⟩, ⟨p2, q2⟩, ⟨p3, q3⟩, g1, g2, g3⟩ := h.val
  clear g1 g2 g3 h
  by_cases hk : k = 1
  · subst hk
    by_cases hn : n = 0
    · subst hn
      have HV : Hid (isTrueB (.mk 1 0 s t l cl r) = false) := by unfold Hid; simp [isTrueB, Vl.kind, Vl.n]
      go_enter Try.func31, Try.ntmps31
      go_wp2
      go_ret
      exact ⟨ret_bool HV.out.symm, (Later.rfl' _).alloc _⟩
    · have HV : Hid (isTrueB (.mk 1 n s t l cl r) = true) := by unfold Hid; simp [isTrueB, Vl.kind, Vl.n, hn]
      have hn' : (n != 0) = true := by simpa using hn
      clear hn
      go_enter Try.func31, Try.ntmps31
      go_wp2
      go_ret
      exact ⟨ret_bool HV.out.symm, (Later.rfl' _).alloc _⟩
  · have HV : Hid (isTrueB (.mk k n s t l cl r) = false) := by unfold Hid; simp [isTrueB, Vl.kind, Vl.n, hk]
    have hk' : (k == 1) = false := by simpa using hk
    clear hk
    go_enter Try.func31, Try.ntmps31
    go_wp2
    go_ret
    exact ⟨ret_bool HV.out.symm, (Later.rfl' _).alloc _⟩

mutual
def Vl.size : Vl → Nat
  | .mk _ _ _ t l c r => (1 + t.size + c.length) + Vl.sizes l + sumN Rw.cost r
def Vl.sizes : List Vl → Nat
  | [] => 0
  | v :: vs => v.size + Vl.sizes vs
end
theorem sizes_eq : ∀ l : List Vl, Vl.sizes l = sumN Vl.size l
  | [] => rfl
  | v :: vs => by rw [Vl.sizes, sizes_eq vs]; rfl
theorem sumN_mono {α : Type} {f g : α → Nat} {l : List α} (h : ∀ x, x ∈ l → f x ≤ g x) : sumN f l ≤ sumN g l := by
  unfold sumN
  induction l with
  | nil => simp
  | cons x l ih =>
    simp only [List.map_cons, List.sum_cons]
    have h1 := h x (by simp)
    have h2 := ih fun y hy => h y (by simp [hy])
    omega
theorem sumN_add {α : Type} (f g : α → Nat) (l : List α) : sumN (fun x => f x + g x) l = sumN f l + sumN g l := by
  unfold sumN
  induction l with
  | nil => simp
  | cons x l ih => simp only [List.map_cons, List.sum_cons, ih]; omega
theorem sumN_one {α : Type} (l : List α) : sumN (fun _ => 1) l = l.length := by
  unfold sumN
  induction l with
  | nil => simp
  | cons x l ih => simp only [List.map_cons, List.sum_cons, ih, List.length_cons]; omega
theorem size_le : ∀ d : Vl, d.size ≤ 1 + d.cost := by
  refine Vl.ind fun k n s t l c r ih => ?_
  rw [Vl.cost_mk, Vl.size, sizes_eq]
  have h1 := sumN_mono (g := fun x => 1 + Vl.cost x) ih
  rw [sumN_add, sumN_one] at h1
  have : c.length ≤ costS c := by unfold costS; omega
  omega
mutual
def Vl.depth : Vl → Nat
  | .mk _ _ _ _ l _ _ => Vl.depths l + 1
def Vl.depths : List Vl → Nat
  | [] => 0
  | v :: vs => max v.depth (Vl.depths vs)
end
theorem vdepths_append (a b : List Vl) : Vl.depths (a ++ b) = max (Vl.depths a) (Vl.depths b) := by
  induction a with
  | nil => simp [Vl.depths]
  | cons e es ih => simp only [List.cons_append, Vl.depths, ih]; omega
theorem vdepths_succ {l : List Vl} {k : Nat} (hk : k < l.length) : Vl.depths (l.take (k + 1)) = max (Vl.depths (l.take k)) l[k].depth := by
  rw [List.take_succ_eq_append_getElem hk, vdepths_append]; simp [Vl.depths]
theorem vdepths_le (l : List Vl) (k : Nat) : Vl.depths (l.take k) ≤ Vl.depths l := by
  conv => rhs; rw [← List.take_append_drop k l, vdepths_append]
  exact Nat.le_max_left _ _
theorem vdepth_mem {l : List Vl} {x : Vl} (h : x ∈ l) : x.depth ≤ Vl.depths l := by
  induction l with
  | nil => simp at h
  | cons y l ih =>
    rw [Vl.depths]
    rcases List.mem_cons.1 h with rfl | h
    · omega
    · have := ih h; omega
theorem depth_le : ∀ d : Vl, d.depth ≤ 1 + d.cost := by
  refine Vl.ind fun k n s t l c r ih => ?_
  rw [Vl.cost_mk, Vl.depth]
  have : Vl.depths l ≤ l.length + sumN Vl.cost l := by
    clear t c r k n s
    induction l with
    | nil => simp [Vl.depths]
    | cons v l ih2 =>
      have h1 := ih v (by simp)
      have h2 := ih2 fun x hx => ih x (by simp [hx])
      rw [Vl.depths, List.length_cons]
      have : sumN Vl.cost (v :: l) = v.cost + sumN Vl.cost l := by simp [sumN]
      omega
  omega

def SizeQ (f : FuncId) (d : Vl) : Prop := d.cost ≤ 1099511627776 → ∀ (W : World) (S : Nat → Prop) (cs : List Value), Ats W S (encV d) cs → Calls Try.prog f #[.agg cs.toArray] W fun r w' => r = .returned (.int .i64 (d.size : Int)) ∧ Later W w'
def DepthQ (f : FuncId) (d : Vl) : Prop := d.cost ≤ 1099511627776 → ∀ (W : World) (S : Nat → Prop) (cs : List Value), Ats W S (encV d) cs → Calls Try.prog f #[.agg cs.toArray] W fun r w' => r = .returned (.int .i64 (d.depth : Int)) ∧ Later W w'
end Go.Proofs.Ytghemlokpfipoaa
