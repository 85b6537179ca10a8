/-
  Values: their parts in the walks' own spelling; their cost: szValue and what it calls.
-/
import Derived.Test.YtjjmbldgemnhbaaYD2
import Derived.Test.YtjjmbldgemnhbaaYMA
import Derived.Outline
namespace Go.Proofs.Ytjjmbldgemnhbaa
open Go.ChangeShapes Go.WideShapes Go.ChangeAt Go.RowKit
set_option linter.unusedVariables false
set_option linter.unusedSimpArgs false

theorem sl_parts {α : Type} {w : World} {S : Nat → Prop} {s : Nat} {enc : α → List Dt} {l : List α} {v : Value} (h : SlAt w S s enc l v) : ∃ A c, v = .slice A l.length c ∧ l.length ≤ c ∧ c ≤ 9223372036854775807 := by
  obtain ⟨A, c, e, h1, h2, _⟩ := At.sl_inv h
  exact ⟨A, c, e, h1, h2⟩
theorem flat_strs (l : List ByteArray) : l.flatMap encS = l.map .str := by
  induction l with
  | nil => rfl
  | cons a l ih => rw [List.flatMap_cons, ih]; rfl
theorem SlAt.later {α : Type} {w w' : World} {S : Nat → Prop} {s : Nat} {enc : α → List Dt} {l : List α} {v : Value} (h : SlAt w S s enc l v) (hb : Later w w') : SlAt w' S s enc l v := At.later h hb
theorem Vl.shape (v : Vl) : ∃ k n s t li cl r, v = Vl.mk k n s t li cl r := by
  obtain ⟨k, n, s, t, li, cl, r⟩ := v
  exact ⟨k, n, s, t, li, cl, r, rfl⟩
theorem sl_strs {w : World} {S : Nat → Prop} {l : List ByteArray} {v : Value} (h : SlAt w S 1 encS l v) : Strs w v l := by
  obtain ⟨A, c, rfl, h1, h2⟩ := sl_parts h
  have hfl := flat_strs l
  have hok := (Ok.sl_inv (At.ok h)).2
  rw [hfl] at hok
  refine ⟨⟨by omega, fun x hx => (hok _ (List.mem_map.2 ⟨x, hx, rfl⟩)).str_inv⟩, A, c, rfl, h1, h2, fun hn => ?_⟩
  unfold SlAt at h
  rw [hfl] at h
  obtain ⟨b, off, e, hl, hS, hc⟩ := At.cells h (by intro e; apply hn; simpa using e)
  refine ⟨b, off, e, hl, fun j u hu => ?_⟩
  rw [List.getElem?_map] at hu
  obtain ⟨x, hx, rfl⟩ := Option.map_eq_some_iff.1 hu
  obtain ⟨u, h1, h2⟩ := hc j (.str x) (by rw [List.getElem?_map, hx]; rfl)
  rw [h1, h2.str_inv.1]

theorem Ats.orig {w : World} {S : Nat → Prop} {o : Org} {cs : List Value} (h : Ats w S (encO o) cs) : cs = [.int .i64 o.1, .int .i64 o.2] ∧ Between64 o.1 ∧ Between64 o.2 := by
  unfold encO at h
  cases h with | cons h0 t => cases t with | cons h1 t => cases t with | nil =>
  obtain ⟨rfl, b0⟩ := h0.int_inv
  obtain ⟨rfl, b1⟩ := h1.int_inv
  exact ⟨rfl, b0, b1⟩
theorem Ats.row {w : World} {S : Nat → Prop} {r : Rw} {cs : List Value} (h : Ats w S (encR r) cs) : ∃ A c A' c', cs = [.slice A r.cells.length c, .slice A' r.from_.length c'] ∧ (r.cells.length ≤ c ∧ c ≤ 9223372036854775807) ∧ (r.from_.length ≤ c' ∧ c' ≤ 9223372036854775807) ∧
    SlAt w S 1 encI r.cells (.slice A r.cells.length c) ∧ SlAt w S 2 encO r.from_ (.slice A' r.from_.length c') := by
  unfold encR at h
  cases h with | cons h0 t => cases t with | cons h1 t => cases t with | nil =>
  obtain ⟨A, c, rfl, g1, g2⟩ := sl_parts h0
  obtain ⟨A', c', rfl, g3, g4⟩ := sl_parts h1
  exact ⟨A, c, A', c', rfl, ⟨g1, g2⟩, ⟨g3, g4⟩, h0, h1⟩
theorem Ats.val {w : World} {S : Nat → Prop} {k n s : Int} {t : ByteArray} {l : List Vl} {cl : List ByteArray} {r : List Rw} {cs : List Value} (h : Ats w S (encV (.mk k n s t l cl r)) cs) :
    ∃ A1 c1 A2 c2 A3 c3, cs = [.int .i64 k, .int .i64 n, .int .i64 s, .string t, .slice A1 l.length c1, .slice A2 cl.length c2, .slice A3 r.length c3] ∧ (Between64 k ∧ Between64 n ∧ Between64 s ∧ t.size ≤ 9223372036854775807) ∧
      (l.length ≤ c1 ∧ c1 ≤ 9223372036854775807) ∧ (cl.length ≤ c2 ∧ c2 ≤ 9223372036854775807) ∧ (r.length ≤ c3 ∧ c3 ≤ 9223372036854775807) ∧
      SlAt w S 7 encV l (.slice A1 l.length c1) ∧ SlAt w S 1 encS cl (.slice A2 cl.length c2) ∧ SlAt w S 2 encR r (.slice A3 r.length c3) := by
  rw [encV, encVs_eq] at h
  cases h with | cons h0 t => cases t with | cons h1 t => cases t with | cons h2 t => cases t with | cons h3 t => cases t with | cons h4 t => cases t with | cons h5 t => cases t with | cons h6 t => cases t with | nil =>
  obtain ⟨rfl, b0⟩ := h0.int_inv
  obtain ⟨rfl, b1⟩ := h1.int_inv
  obtain ⟨rfl, b2⟩ := h2.int_inv
  obtain ⟨rfl, b3⟩ := h3.str_inv
  obtain ⟨A1, c1, rfl, g1, g2⟩ := sl_parts h4
  obtain ⟨A2, c2, rfl, g3, g4⟩ := sl_parts h5
  obtain ⟨A3, c3, rfl, g5, g6⟩ := sl_parts h6
  exact ⟨A1, c1, A2, c2, A3, c3, rfl, ⟨b0, b1, b2, b3⟩, ⟨g1, g2⟩, ⟨g3, g4⟩, ⟨g5, g6⟩, h4, h5, h6⟩

/-- An element that is one cell. -/
theorem SlAt.intAt {w : World} {S : Nat → Prop} {l : List Int} {A : Option Addr} {n c : Nat} (h : SlAt w S 1 encI l (.slice A n c)) {i : Nat} (hi : i < l.length) :
    ∃ b off, A = some ⟨b, off, none⟩ ∧ b < w.heap.size ∧ S b ∧ w.cell? ⟨b, off + i, none⟩ = some (.int .i64 l[i]) ∧ Between64 l[i] := by
  obtain ⟨b, off, e, hl, hs, hc⟩ := h.elem encI_len hi (by omega)
  obtain ⟨u, h1, h2⟩ := hc 0 _ (by omega) rfl
  obtain ⟨rfl, hb⟩ := h2.int_inv
  exact ⟨b, off, e, hl, hs, by simpa using h1, hb⟩
theorem SlAt.strAt {w : World} {S : Nat → Prop} {l : List ByteArray} {A : Option Addr} {n c : Nat} (h : SlAt w S 1 encS l (.slice A n c)) {i : Nat} (hi : i < l.length) :
    ∃ b off, A = some ⟨b, off, none⟩ ∧ b < w.heap.size ∧ S b ∧ w.cell? ⟨b, off + i, none⟩ = some (.string l[i]) := by
  obtain ⟨b, off, e, hl, hs, hc⟩ := h.elem encS_len hi (by omega)
  obtain ⟨u, h1, h2⟩ := hc 0 _ (by omega) rfl
  obtain ⟨rfl, hb⟩ := h2.str_inv
  exact ⟨b, off, e, hl, hs, by simpa using h1⟩
theorem SlAt.origAt {w : World} {S : Nat → Prop} {l : List Org} {A : Option Addr} {n c : Nat} (h : SlAt w S 2 encO l (.slice A n c)) {i : Nat} (hi : i < l.length) :
    ∃ b off, A = some ⟨b, off, none⟩ ∧ b < w.heap.size ∧ S b ∧ w.cell? ⟨b, off + i * 2, none⟩ = some (.int .i64 l[i].1) ∧ w.cell? ⟨b, off + i * 2 + 1, none⟩ = some (.int .i64 l[i].2) ∧ Between64 l[i].1 ∧ Between64 l[i].2 := by
  obtain ⟨b, off, e, hl, hs, hc⟩ := h.elem encO_len hi (by omega)
  obtain ⟨u, h1, h2⟩ := hc 0 _ (by omega) rfl
  obtain ⟨u', h3, h4⟩ := hc 1 _ (by omega) rfl
  obtain ⟨rfl, hb⟩ := h2.int_inv
  obtain ⟨rfl, hb'⟩ := h4.int_inv
  exact ⟨b, off, e, hl, hs, by simpa using h1, by simpa [Nat.add_assoc] using h3, hb, hb'⟩
theorem SlAt.rowAt {w : World} {S : Nat → Prop} {l : List Rw} {A : Option Addr} {n c : Nat} (h : SlAt w S 2 encR l (.slice A n c)) {i : Nat} (hi : i < l.length) :
    ∃ b off A1 c1 A2 c2, A = some ⟨b, off, none⟩ ∧ b < w.heap.size ∧ S b ∧ Ats w S (encR l[i]) [.slice A1 l[i].cells.length c1, .slice A2 l[i].from_.length c2] ∧
      w.cell? ⟨b, off + i * 2, none⟩ = some (.slice A1 l[i].cells.length c1) ∧ w.cell? ⟨b, off + i * 2 + 1, none⟩ = some (.slice A2 l[i].from_.length c2) := by
  obtain ⟨b, off, e, hl, hs, hc⟩ := h.elem encR_len hi (by omega)
  obtain ⟨u, h1, h2⟩ := hc 0 _ (by omega) rfl
  obtain ⟨u', h3, h4⟩ := hc 1 _ (by omega) rfl
  obtain ⟨A1, c1, A2, c2, e2, _⟩ := Ats.row (r := l[i]) (.cons h2 (.cons h4 .nil))
  simp only [List.cons.injEq, and_true] at e2
  obtain ⟨rfl, rfl⟩ := e2
  exact ⟨b, off, A1, c1, A2, c2, e, hl, hs, .cons h2 (.cons h4 .nil), by simpa using h1, by simpa [Nat.add_assoc] using h3⟩
theorem SlAt.valAt {w : World} {S : Nat → Prop} {l : List Vl} {A : Option Addr} {n c : Nat} (h : SlAt w S 7 encV l (.slice A n c)) {i : Nat} (hi : i < l.length) :
    ∃ b off k n s t A1 n1 c1 A2 n2 c2 A3 n3 c3, A = some ⟨b, off, none⟩ ∧ b < w.heap.size ∧ S b ∧ Ats w S (encV l[i]) [.int .i64 k, .int .i64 n, .int .i64 s, .string t, .slice A1 n1 c1, .slice A2 n2 c2, .slice A3 n3 c3] ∧
      w.cell? ⟨b, off + i * 7, none⟩ = some (.int .i64 k) ∧ w.cell? ⟨b, off + i * 7 + 1, none⟩ = some (.int .i64 n) ∧ w.cell? ⟨b, off + i * 7 + 2, none⟩ = some (.int .i64 s) ∧ w.cell? ⟨b, off + i * 7 + 3, none⟩ = some (.string t) ∧
      w.cell? ⟨b, off + i * 7 + 4, none⟩ = some (.slice A1 n1 c1) ∧ w.cell? ⟨b, off + i * 7 + 5, none⟩ = some (.slice A2 n2 c2) ∧ w.cell? ⟨b, off + i * 7 + 6, none⟩ = some (.slice A3 n3 c3) := by
  obtain ⟨b, off, e, hl, hs, hc⟩ := h.elem encV_len hi (by omega)
  obtain ⟨k, n, s, t, li, cl, r, hx⟩ := Vl.shape l[i]
  rw [hx] at hc ⊢
  rw [encV] at hc
  obtain ⟨u0, g0, a0⟩ := hc 0 _ (by omega) rfl
  obtain ⟨u1, g1, a1⟩ := hc 1 _ (by omega) rfl
  obtain ⟨u2, g2, a2⟩ := hc 2 _ (by omega) rfl
  obtain ⟨u3, g3, a3⟩ := hc 3 _ (by omega) rfl
  obtain ⟨u4, g4, a4⟩ := hc 4 _ (by omega) rfl
  obtain ⟨u5, g5, a5⟩ := hc 5 _ (by omega) rfl
  obtain ⟨u6, g6, a6⟩ := hc 6 _ (by omega) rfl
  have hA : Ats w S (encV (.mk k n s t li cl r)) [u0, u1, u2, u3, u4, u5, u6] := by
    rw [encV]
    exact .cons a0 (.cons a1 (.cons a2 (.cons a3 (.cons a4 (.cons a5 (.cons a6 .nil))))))
  obtain ⟨A1, c1, A2, c2, A3, c3, e2, _⟩ := hA.val
  simp only [List.cons.injEq, and_true] at e2
  obtain ⟨rfl, rfl, rfl, rfl, rfl, rfl, rfl⟩ := e2
  refine ⟨b, off, _, _, _, _, _, _, _, _, _, _, _, _, _, e, hl, hs, hA, ?_⟩
  simp only [Nat.add_assoc]
  exact ⟨g0, g1, g2, g3, g4, g5, g6⟩

/-! Sums over a list. -/
def sumN {α : Type} (f : α → Nat) (l : List α) : Nat := (l.map f).sum
theorem sumN_succ {α : Type} {f : α → Nat} {l : List α} {k : Nat} (hk : k < l.length) : sumN f (l.take (k + 1)) = sumN f (l.take k) + f l[k] := by
  unfold sumN
  rw [List.take_succ_eq_append_getElem hk, List.map_append, List.sum_append]
  simp
theorem sumN_le {α : Type} (f : α → Nat) (l : List α) (k : Nat) : sumN f (l.take k) ≤ sumN f l := by
  unfold sumN
  conv => rhs; rw [← List.take_append_drop k l, List.map_append, List.sum_append]
  exact Nat.le_add_right _ _
theorem sumN_mem {α : Type} (f : α → Nat) {l : List α} {x : α} (h : x ∈ l) : f x ≤ sumN f l := by
  unfold sumN
  induction l with
  | nil => simp at h
  | cons y l ih =>
    rw [List.map_cons, List.sum_cons]
    rcases List.mem_cons.1 h with rfl | h
    · omega
    · have := ih h; omega
def Rw.cost (r : Rw) : Nat := r.cells.length + r.from_.length
mutual
def Vl.cost : Vl → Nat
  | .mk _ _ _ t l c r => t.size + ((l.length + Vl.costs l) + (costS c + (r.length + sumN Rw.cost r)))
def Vl.costs : List Vl → Nat
  | [] => 0
  | v :: vs => v.cost + Vl.costs vs
end
theorem costs_eq : ∀ l : List Vl, Vl.costs l = sumN Vl.cost l
  | [] => rfl
  | v :: vs => by rw [Vl.costs, costs_eq vs]; rfl
theorem Vl.cost_mk (k n s : Int) (t : ByteArray) (l : List Vl) (c : List ByteArray) (r : List Rw) : Vl.cost (.mk k n s t l c r) = t.size + ((l.length + sumN Vl.cost l) + (costS c + (r.length + sumN Rw.cost r))) := by rw [Vl.cost, costs_eq]

theorem szR_range (left : Int) (c : Nat) (h : 0 ≤ left) (h1 : left ≤ 1048576) : (szR left c = -1 ∧ left < c) ∨ (szR left c = left - c ∧ 0 ≤ left - c) := by
  unfold szR
  split
  · exact .inl ⟨rfl, by assumption⟩
  · exact .inr ⟨rfl, by omega⟩
theorem szR_neg {left : Int} {c : Nat} (h : left < c) : szR left c = -1 := szR_big h


theorem szIntS (A : Option Addr) (n c : Nat) (left : Int) (w : World) (hn : n ≤ 9223372036854775807) (h0 : 0 ≤ left) (h1 : left ≤ 1048576) : Calls Try.prog 66 #[.slice A n c, .int .i64 left] w fun r w' => r = .returned (.int .i64 (szR left n)) ∧ Later w w' := by
  rcases szR_range left n h0 h1 with ⟨e, hl⟩ | ⟨e, hl⟩
  · rw [e]; clear e
    go_enter Try.func66, Try.ntmps66
    go_wp2
    go_ret
    exact ⟨rfl, Later.rfl' _⟩
  · rw [e]; clear e
    go_enter Try.func66, Try.ntmps66
    go_wp2
    go_ret
    exact ⟨rfl, Later.rfl' _⟩

theorem szOriginS (A : Option Addr) (n c : Nat) (left : Int) (w : World) (hn : n ≤ 9223372036854775807) (h0 : 0 ≤ left) (h1 : left ≤ 1048576) : Calls Try.prog 5 #[.slice A n c, .int .i64 left] w fun r w' => r = .returned (.int .i64 (szR left n)) ∧ Later w w' := by
  rcases szR_range left n h0 h1 with ⟨e, hl⟩ | ⟨e, hl⟩
  · rw [e]; clear e
    go_enter Try.func5, Try.ntmps5
    go_wp2
    go_ret
    exact ⟨rfl, Later.rfl' _⟩
  · rw [e]; clear e
    go_enter Try.func5, Try.ntmps5
    go_wp2
    go_ret
    exact ⟨rfl, Later.rfl' _⟩

/-- The cells of a struct that was laid in a variable. -/
theorem boxN {w w1 : World} {t : TypeId} {cs : Array Value} (hb : Later (w.alloc (.cells cs t)) w1) {j : Nat} {u : Value} (h : cs[j]? = some u) : w1.cell? ⟨w.heap.size, j, none⟩ = some u := by
  rw [Below.cell (p := ⟨w.heap.size, j, none⟩) hb (by simp)]
  rw [cell_of_row _ _ j cs t (0, 0) (heap_alloc_new w _)]
  exact h

theorem szRow (r : Rw) (left : Int) (h0 : 0 ≤ left) (h1 : left ≤ 1048576) (W : World) (S : Nat → Prop) (cs : List Value) (h : Ats W S (encR r) cs) :
    Calls Try.prog 42 #[.agg cs.toArray, .int .i64 left] W fun e w' => e = .returned (.int .i64 (szR left r.cost)) ∧ Later W w' := by
  obtain ⟨A, c, A', c', rfl, g1, g2, _, _⟩ := h.row
  have C1 := fun w => szIntS A r.cells.length c left w (by omega) h0 h1
  have C2 := fun l w (a : 0 ≤ l) (b : l ≤ 1048576) => szOriginS A' r.from_.length c' l w (by omega) a b
  have hr := szR_range left r.cells.length h0 h1
  obtain ⟨n1, hn1⟩ : ∃ n, n = r.cells.length := ⟨_, rfl⟩
  obtain ⟨n2, hn2⟩ : ∃ n, n = r.from_.length := ⟨_, rfl⟩
  have hc : r.cost = n1 + n2 := by rw [hn1, hn2]; rfl
  rw [hc]
  rw [← hn1] at C1 hr ⊢
  rw [← hn2] at C2 ⊢
  obtain ⟨q, hq⟩ : ∃ q, q = szR left n1 := ⟨_, rfl⟩
  rw [← hq] at C1 hr
  have H1 := Lib.hid C1
  clear C1 hn1 hn2 hc hq h
  rcases hr with ⟨e1, e2⟩ | ⟨e1, e2⟩
  · have HV : Hid (szR left (n1 + n2) = -1) := szR_big (by omega)
    have hneg : q < 0 := by omega
    clear e1 e2 C2
    go_enter Try.func42, Try.ntmps42
    go_wp2_with fail
    refine (H1.out _).mono ?_; rintro r w1 ⟨rfl, hb1⟩
    go_wp2_with fail
    go_ret
    exact ⟨ret_int HV.out.symm, ((Later.rfl' _).alloc _).trans hb1⟩
  · have h2 : 0 ≤ q := by omega
    have h3 : q ≤ 1048576 := by omega
    have C2' := fun w => C2 q w h2 h3
    have hr := szR_range q n2 h2 h3
    have HV : Hid (szR left (n1 + n2) = szR q n2) := by
      unfold Hid
      subst e1
      unfold szR
      split <;> split <;> omega
    obtain ⟨p, hp⟩ : ∃ p, p = szR q n2 := ⟨_, rfl⟩
    rw [← hp] at C2' hr HV
    have H2 := Lib.hid C2'
    clear C2 C2' e1 e2 hp
    rcases hr with ⟨e3, e4⟩ | ⟨e3, e4⟩
    · have hneg : p < 0 := by omega
      have HP := Lib.hid e3
      clear e3 e4
      go_enter Try.func42, Try.ntmps42
      go_wp2_with fail
      refine (H1.out _).mono ?_; rintro r w1 ⟨rfl, hb1⟩
      have b1 := boxN hb1 (j := 1) rfl
      go_wp2_with fail
      refine (H2.out _).mono ?_; rintro r w2 ⟨rfl, hb2⟩
      go_wp2_with fail
      go_ret
      exact ⟨ret_int (by rw [HV.out]; exact HP.out.symm), (((Later.rfl' _).alloc _).trans hb1).trans hb2⟩
    · have hneg : 0 ≤ p := by omega
      clear e3 e4
      go_enter Try.func42, Try.ntmps42
      go_wp2_with fail
      refine (H1.out _).mono ?_; rintro r w1 ⟨rfl, hb1⟩
      have b1 := boxN hb1 (j := 1) rfl
      go_wp2_with fail
      refine (H2.out _).mono ?_; rintro r w2 ⟨rfl, hb2⟩
      go_wp2_with fail
      go_ret
      exact ⟨ret_int HV.out.symm, (((Later.rfl' _).alloc _).trans hb1).trans hb2⟩

/-- What szValue answers for a value. -/
def SzQ (d : Vl) : Prop := ∀ left : Int, 0 ≤ left → left ≤ 1048576 → ∀ (W : World) (S : Nat → Prop) (cs : List Value), Ats W S (encV d) cs → Calls Try.prog 12 #[.agg cs.toArray, .int .i64 left] W fun r w' => r = .returned (.int .i64 (szR left d.cost)) ∧ Later W w'
def SzRQ (d : Rw) : Prop := ∀ left : Int, 0 ≤ left → left ≤ 1048576 → ∀ (W : World) (S : Nat → Prop) (cs : List Value), Ats W S (encR d) cs → Calls Try.prog 42 #[.agg cs.toArray, .int .i64 left] W fun r w' => r = .returned (.int .i64 (szR left d.cost)) ∧ Later W w'


theorem szRowS (l : List Rw) (hq : ∀ x, x ∈ l → SzRQ x) (left : Int) (h0 : 0 ≤ left) (h1 : left ≤ 1048576) (W : World) (S : Nat → Prop) (v : Value) (h : SlAt W S 2 encR l v) :
    Calls Try.prog 26 #[v, .int .i64 left] W fun r w' => r = .returned (.int .i64 (szR left (l.length + sumN Rw.cost l))) ∧ Later W w' := by
  obtain ⟨A, c, rfl, hlc, hcm⟩ := sl_parts h
  have HE := Lib.hid h; clear h
  have HQ := Lib.hid hq; clear hq
  by_cases hl : left < (l.length : Int)
  · have HV : Hid (szR left (l.length + sumN Rw.cost l) = -1) := szR_big (by omega)
    go_enter Try.func26, Try.ntmps26
    go_wp2
    go_ret
    exact ⟨ret_int HV.out.symm, Later.rfl' _⟩
  · have hl' : (l.length : Int) ≤ left := by omega
    clear hl
    go_enter Try.func26, Try.ntmps26
    go_wp2
    go_loopw [1, 5] (fun lf i wr => ∃ j : Nat, j ≤ l.length ∧ i = .int .i64 j ∧ ((l.length + sumN Rw.cost (l.take j) : Nat) : Int) ≤ left ∧ lf = .int .i64 (left - ((l.length + sumN Rw.cost (l.take j) : Nat) : Int)) ∧ Later W wr) (fun _ i _ => l.length - (intOf i).toNat)
    case atStart => exact ⟨0, Nat.zero_le _, rfl, by simpa [sumN] using hl', by simp [sumN], Later.rfl' _⟩
    case round =>
      obtain ⟨j, hj, rfl, hle0, rfl, hw⟩ := hrel
      have hle := sumN_le Rw.cost l j
      by_cases hlt : j < l.length
      · obtain ⟨b, off, A1, c1, A2, c2, rfl, hb, _, hx, e0, e1⟩ := (HE.out.later hw).rowAt hlt
        have hs := sumN_succ (f := Rw.cost) hlt
        have hs2 := sumN_le Rw.cost l (j + 1)
        have C0 := HQ.out l[j] (List.getElem_mem hlt)
        obtain ⟨N, hN⟩ : ∃ N, N = l[j].cost := ⟨_, rfl⟩
        obtain ⟨M, hM⟩ : ∃ M, M = l.length + sumN Rw.cost (l.take j) := ⟨_, rfl⟩
        obtain ⟨M', hM'⟩ : ∃ M, M = l.length + sumN Rw.cost (l.take (j + 1)) := ⟨_, rfl⟩
        obtain ⟨Z, hZ⟩ : ∃ Z, Z = l.length + sumN Rw.cost l := ⟨_, rfl⟩
        rw [← hM] at hle0 ⊢
        have hMM : M' = M + N := by omega
        have hMZ : M' ≤ Z := by omega
        have hr := szR_range (left - M) N (by omega) (by omega)
        have C := fun W' (hW' : Later wr W') => C0 (left - M) (by omega) (by omega) W' S _ (hx.later hW')
        rw [← hN] at C
        obtain ⟨q, hq'⟩ : ∃ q, q = szR (left - M) N := ⟨_, rfl⟩
        simp only [← hq'] at C hr
        have HM' : Hid (M' = l.length + sumN Rw.cost (l.take (j + 1))) := hM'
        have HZ : Hid (Z = l.length + sumN Rw.cost l) := hZ
        have HS : Hid (M' = M + N) := hMM
        have HC := Lib.hid C
        have HW2 := Lib.hid hw
        clear C C0 hx hN hM hM' hZ hs hs2 hle hw hq' hMM
        rcases hr with ⟨hq1, hq2⟩ | ⟨hq1, hq2⟩
        · have hneg : q < 0 := by omega
          have HV : Hid (szR left Z = -1) := szR_big (by have := HS.out; omega)
          clear hq1
          go_wp2_with fail
          refine (HC.out _ (Later.rfl' _)).mono ?_; rintro r w1 ⟨rfl, hb1⟩
          go_wp2
          go_ret
          exact ⟨ret_int (by rw [← HZ.out]; exact HV.out.symm), HW2.out.trans hb1⟩
        · have hneg : 0 ≤ q := by omega
          have HQ1 : Hid (q = left - M - N) := hq1
          clear hq1
          go_wp2_with fail
          refine (HC.out _ (Later.rfl' _)).mono ?_; rintro r w1 ⟨rfl, hb1⟩
          go_wp2
          go_roundw
          case rel => exact ⟨j + 1, by omega, by go_num, by rw [← HM'.out, HS.out]; omega, by rw [← HM'.out, HS.out, HQ1.out]; go_num, HW2.out.trans hb1⟩
          case measure => simp [intOf]; omega
      · have e : l.take j = l := List.take_of_length_le (by omega)
        rw [e] at hle0 ⊢
        have HV : Hid (szR left (l.length + sumN Rw.cost l) = left - ((l.length + sumN Rw.cost l : Nat) : Int)) := szR_small (by omega)
        have HW2 := Lib.hid hw
        obtain ⟨Z, hZ⟩ : ∃ Z, Z = l.length + sumN Rw.cost l := ⟨_, rfl⟩
        have HZ : Hid (Z = l.length + sumN Rw.cost l) := hZ
        rw [← hZ] at hle0 HV ⊢
        clear hw e hZ hle
        go_wp2
        go_ret
        exact ⟨ret_int (by rw [← HZ.out]; exact HV.out.symm), HW2.out⟩

theorem szValueS (l : List Vl) (hq : ∀ x, x ∈ l → SzQ x) (left : Int) (h0 : 0 ≤ left) (h1 : left ≤ 1048576) (W : World) (S : Nat → Prop) (v : Value) (h : SlAt W S 7 encV l v) :
    Calls Try.prog 24 #[v, .int .i64 left] W fun r w' => r = .returned (.int .i64 (szR left (l.length + sumN Vl.cost l))) ∧ Later W w' := by
  obtain ⟨A, c, rfl, hlc, hcm⟩ := sl_parts h
  have HE := Lib.hid h; clear h
  have HQ := Lib.hid hq; clear hq
  by_cases hl : left < (l.length : Int)
  · have HV : Hid (szR left (l.length + sumN Vl.cost l) = -1) := szR_big (by omega)
    go_enter Try.func24, Try.ntmps24
    go_wp2
    go_ret
    exact ⟨ret_int HV.out.symm, Later.rfl' _⟩
  · have hl' : (l.length : Int) ≤ left := by omega
    clear hl
    go_enter Try.func24, Try.ntmps24
    go_wp2
    go_loopw [1, 5] (fun lf i wr => ∃ j : Nat, j ≤ l.length ∧ i = .int .i64 j ∧ ((l.length + sumN Vl.cost (l.take j) : Nat) : Int) ≤ left ∧ lf = .int .i64 (left - ((l.length + sumN Vl.cost (l.take j) : Nat) : Int)) ∧ Later W wr) (fun _ i _ => l.length - (intOf i).toNat)
    case atStart => exact ⟨0, Nat.zero_le _, rfl, by simpa [sumN] using hl', by simp [sumN], Later.rfl' _⟩
    case round =>
      obtain ⟨j, hj, rfl, hle0, rfl, hw⟩ := hrel
      have hle := sumN_le Vl.cost l j
      by_cases hlt : j < l.length
      · obtain ⟨b, off, y0, y1, y2, y3, A1, n1, c1, A2, n2, c2, A3, n3, c3, rfl, hb, _, hx, e0, e1, e2, e3, e4, e5, e6⟩ := (HE.out.later hw).valAt hlt
        have hs := sumN_succ (f := Vl.cost) hlt
        have hs2 := sumN_le Vl.cost l (j + 1)
        have C0 := HQ.out l[j] (List.getElem_mem hlt)
        obtain ⟨N, hN⟩ : ∃ N, N = l[j].cost := ⟨_, rfl⟩
        obtain ⟨M, hM⟩ : ∃ M, M = l.length + sumN Vl.cost (l.take j) := ⟨_, rfl⟩
        obtain ⟨M', hM'⟩ : ∃ M, M = l.length + sumN Vl.cost (l.take (j + 1)) := ⟨_, rfl⟩
        obtain ⟨Z, hZ⟩ : ∃ Z, Z = l.length + sumN Vl.cost l := ⟨_, rfl⟩
        rw [← hM] at hle0 ⊢
        have hMM : M' = M + N := by omega
        have hMZ : M' ≤ Z := by omega
        have hr := szR_range (left - M) N (by omega) (by omega)
        have C := fun W' (hW' : Later wr W') => C0 (left - M) (by omega) (by omega) W' S _ (hx.later hW')
        rw [← hN] at C
        obtain ⟨q, hq'⟩ : ∃ q, q = szR (left - M) N := ⟨_, rfl⟩
        simp only [← hq'] at C hr
        have HM' : Hid (M' = l.length + sumN Vl.cost (l.take (j + 1))) := hM'
        have HZ : Hid (Z = l.length + sumN Vl.cost l) := hZ
        have HS : Hid (M' = M + N) := hMM
        have HC := Lib.hid C
        have HW2 := Lib.hid hw
        clear C C0 hx hN hM hM' hZ hs hs2 hle hw hq' hMM
        rcases hr with ⟨hq1, hq2⟩ | ⟨hq1, hq2⟩
        · have hneg : q < 0 := by omega
          have HV : Hid (szR left Z = -1) := szR_big (by have := HS.out; omega)
          clear hq1
          go_wp2_with fail
          refine (HC.out _ (Later.rfl' _)).mono ?_; rintro r w1 ⟨rfl, hb1⟩
          go_wp2
          go_ret
          exact ⟨ret_int (by rw [← HZ.out]; exact HV.out.symm), HW2.out.trans hb1⟩
        · have hneg : 0 ≤ q := by omega
          have HQ1 : Hid (q = left - M - N) := hq1
          clear hq1
          go_wp2_with fail
          refine (HC.out _ (Later.rfl' _)).mono ?_; rintro r w1 ⟨rfl, hb1⟩
          go_wp2
          go_roundw
          case rel => exact ⟨j + 1, by omega, by go_num, by rw [← HM'.out, HS.out]; omega, by rw [← HM'.out, HS.out, HQ1.out]; go_num, HW2.out.trans hb1⟩
          case measure => simp [intOf]; omega
      · have e : l.take j = l := List.take_of_length_le (by omega)
        rw [e] at hle0 ⊢
        have HV : Hid (szR left (l.length + sumN Vl.cost l) = left - ((l.length + sumN Vl.cost l : Nat) : Int)) := szR_small (by omega)
        have HW2 := Lib.hid hw
        obtain ⟨Z, hZ⟩ : ∃ Z, Z = l.length + sumN Vl.cost l := ⟨_, rfl⟩
        have HZ : Hid (Z = l.length + sumN Vl.cost l) := hZ
        rw [← hZ] at hle0 HV ⊢
        clear hw e hZ hle
        go_wp2
        go_ret
        exact ⟨ret_int (by rw [← HZ.out]; exact HV.out.symm), HW2.out⟩
end Go.Proofs.Ytjjmbldgemnhbaa
