/-
  Words on memory for this seat: a slice of strings that reads as a list, worlds that only grow.
-/
import Derived.WalkKit
import Derived.WalkLawsBesides
import Derived.WalkSpells
import Derived.ProofKit
import Derived.OpenShut
import Derived.ShutString
import Derived.ChangeOld
import Derived.Below
import Derived.Deep.Slices
import Derived.Lib.Hide
import Derived.Deep.Draws
namespace Go.Proofs.Ytjjmbldgemnhbaa
open Go.RowKit Go.ChangeShapes Go.WideShapes

theorem ret_int {k : IntKind} {a b : Int} (h : a = b) : Ending.returned (.int k a) = .returned (.int k b) := by rw [h]
theorem ret_bool {a b : Bool} (h : a = b) : Ending.returned (.bool a) = .returned (.bool b) := by rw [h]
theorem ret_string {a b : ByteArray} (h : a = b) : Ending.returned (.string a) = .returned (.string b) := by rw [h]

/-- What was there stays as it was. -/
def Later (w w' : World) : Prop := Below w.heap.size w w'
theorem Later.rfl' (w : World) : Later w w := Below.refl _ _
theorem Later.trans {a b c : World} (h : Later a b) (k : Later b c) : Later a c := Below.trans h (Below.mono k (Below.size h))
theorem Later.alloc {a b : World} (h : Later a b) (o : Obj) : Later a (b.alloc o) := Below.alloc h (Below.size h) o
theorem Later.drew {a b : World} (h : Later a b) : Later a b.drew := Below.drew h
theorem Later.drewN (a : World) (n : Nat) : Later a (a.drewN n) := ⟨rfl, rfl, rfl, Nat.le_refl _, fun _ _ => rfl⟩
theorem Later.size {a b : World} (h : Later a b) : a.heap.size ≤ b.heap.size := Below.size h

/-- Nothing but draws. -/
def Draws (w w' : World) : Prop := ∃ n, w' = w.drewN n
theorem Draws.rfl' (w : World) : Draws w w := ⟨0, rfl⟩
theorem Draws.drewN (w : World) (n : Nat) : Draws w (w.drewN n) := ⟨n, rfl⟩
theorem Draws.trans {a b c : World} (h : Draws a b) (k : Draws b c) : Draws a c := by
  obtain ⟨n, rfl⟩ := h
  obtain ⟨m, rfl⟩ := k
  exact ⟨n + m, by rw [World.drewN_drewN]⟩
theorem Draws.later {a b : World} (h : Draws a b) : Later a b := by
  obtain ⟨n, rfl⟩ := h
  exact Later.drewN _ _
/-- A call that only draws, in a region that draws its order. -/
theorem quiet_call {P : Program} {f : FuncId} {args : Array Value} {w : World} {n : Nat} {v : Value} (h : Calls P f args (w.drewN n) fun e w' => e = .returned v ∧ Draws (w.drewN n) w') :
    Calls P f args (w.drewN n) fun e w'' => e = .returned v ∧ ∃ m, w'' = w.drewN m :=
  h.mono fun _ _ ⟨he, m, hm⟩ => ⟨he, n + m, by rw [hm, World.drewN_drewN]⟩

/-- An int's range. -/
def Between64 (n : Int) : Prop := -9223372036854775808 ≤ n ∧ n ≤ 9223372036854775807
theorem i64_of_wf {n : Int} (h : (Lit.int .i64 n).wf = true) : Between64 n := by
  exact bounds_i64 h
/-- A byte's range. -/
def Between8 (n : Int) : Prop := 0 ≤ n ∧ n ≤ 255
theorem u8_of_wf {n : Int} (h : (Lit.int .u8 n).wf = true) : Between8 n := bounds_u8 h
/-- The cells of a slice lie behind its address. -/
def Cells (w : World) (A : Option Addr) (xs : List Value) : Prop :=
  xs ≠ [] → ∃ b off, A = some ⟨b, off, none⟩ ∧ b < w.heap.size ∧ ∀ j u, xs[j]? = some u → w.cell? ⟨b, off + j, none⟩ = some u

theorem Cells.later {w w' : World} {A : Option Addr} {xs : List Value} (h : Cells w A xs) (hb : Later w w') : Cells w' A xs := fun hn => by
  obtain ⟨b, off, e, hl, hc⟩ := h hn
  exact ⟨b, off, e, Nat.lt_of_lt_of_le hl hb.size, fun j u hu => (Below.cell hb (p := ⟨b, off + j, none⟩) hl).trans (hc j u hu)⟩

/-- A slice of strings. -/
def Fit (xs : List ByteArray) : Prop := xs.length ≤ 9223372036854775807 ∧ ∀ x ∈ xs, x.size ≤ 9223372036854775807
def Strs (w : World) (v : Value) (xs : List ByteArray) : Prop := Fit xs ∧ ∃ A c, v = .slice A xs.length c ∧ xs.length ≤ c ∧ c ≤ 9223372036854775807 ∧ Cells w A (xs.map .string)

theorem Strs.later {w w' : World} {v : Value} {xs : List ByteArray} (h : Strs w v xs) (hb : Later w w') : Strs w' v xs := by
  obtain ⟨hm, A, c, e, h1, h2, hc⟩ := h
  exact ⟨hm, A, c, e, h1, h2, hc.later hb⟩

/-- The i-th cell. -/
theorem Cells.at_ {w : World} {A : Option Addr} {xs : List Value} (h : Cells w A xs) {k : Nat} (hk : k < xs.length) :
    ∃ b off, A = some ⟨b, off, none⟩ ∧ b < w.heap.size ∧ w.cell? ⟨b, off + k, none⟩ = some xs[k] := by
  obtain ⟨b, off, e, hl, hc⟩ := h (by intro e; subst e; simp at hk)
  exact ⟨b, off, e, hl, hc k _ (List.getElem?_eq_getElem hk)⟩

section
variable {H : Type} {enc : TypeId × Value → H} {P : Program} {w : World} {sp : Nat → Bool} {held : Bool}
theorem add_lit (b o j : Nat) : (⟨b, o, none⟩ : Addr).add j = ⟨b, o + j, none⟩ := by
  unfold Addr.add
  split
  · next h => subst h; rfl
  · rfl
theorem spot_none {p : Addr} {u : Value} (h : w.cell? p = some u) : p = ⟨p.block, p.off, none⟩ := by
  have := World.cell?_spot h
  cases p; simp_all

/-- An argument that is a slice of strings. -/
theorem strs_of_trod {t e : TypeId} {fuel : Nat} {A : Option Addr} {n c : Nat} {x : DataW H × List MemPlace} (ht : P.underlying t = some (.slice e)) (he : P.underlying e = some .string) (h1 : P.cellsOf e = 1)
    (h : DataW.trod enc P w 0 sp held fuel t [.slice A n c] = some x) : ∃ xs, Strs w (.slice A n c) xs := by
  rcases DataW.trod_slice ht h with ⟨hcs, _⟩ | ⟨a, len, cap, elems, rest, m, _, hcs, _, _, hl, hm, hlen, hel, _⟩
  · simp only [List.cons.injEq, Value.slice.injEq, and_true] at hcs
    obtain ⟨rfl, rfl, rfl⟩ := hcs
    exact ⟨[], ⟨by simp, by simp⟩, none, 0, rfl, Nat.le_refl _, by omega, fun hn => absurd rfl hn⟩
  · simp only [List.cons.injEq, Value.slice.injEq, and_true] at hcs
    obtain ⟨rfl, rfl, rfl⟩ := hcs
    have hall : ∀ i, i < n → ∃ s : ByteArray, w.cell? (a.add i) = some (.string s) ∧ s.size ≤ maxLen := by
      intro i hi
      have hx := hel i hi
      rw [List.getElem?_eq_getElem (by omega)] at hx
      simp only [h1, Nat.mul_one, Option.bind_eq_some_iff] at hx
      obtain ⟨cs', hc, hd⟩ := hx
      obtain ⟨s, rfl, _, hsz⟩ := DataW.trod_string he hd
      obtain ⟨_, _, hat⟩ := World.cells?_some hc
      exact ⟨s, by simpa [Addr.add] using hat 0 (by omega), hsz⟩
    obtain ⟨S, hS⟩ := Go.Deep.choose_lt hall
    refine ⟨(List.range n).map S, ⟨by simp; simp only [maxLen] at hm; omega, fun x hx => ?_⟩, some a, c, by simp, by simpa using hl, by simp only [maxLen] at hm; omega, fun hn => ?_⟩
    · obtain ⟨i, hi, rfl⟩ := List.mem_map.1 hx
      have := (hS i (by simpa using hi)).2
      simp only [maxLen] at this
      omega
    have hn0 : 0 < n := by
      rcases Nat.eq_zero_or_pos n with h0 | h0
      · subst h0; simp at hn
      · exact h0
    have h0 := (hS 0 hn0).1
    have hsp := spot_none (by simpa [Addr.add] using h0)
    refine ⟨a.block, a.off, by rw [← hsp], ?_, fun j u hu => ?_⟩
    · have := World.block_lt_of_cell? w _ h0
      simpa [Addr.add] using this
    · have hj : j < n := by
        have := (List.getElem?_eq_some_iff.1 hu).1
        simpa using this
      have hu' : u = .string (S j) := by simpa [hj] using hu.symm
      have hj' := (hS j hj).1
      rw [hsp] at hj'
      rw [add_lit] at hj'
      rw [hu']
      exact hj'
end

theorem toList_inj {x y : ByteArray} : x.toList = y.toList ↔ x = y := by
  rw [ByteArray.toList_eq, ByteArray.toList_eq]
  constructor
  · intro h
    cases x; cases y
    simp only [ByteArray.mk.injEq]
    exact Array.toList_inj.1 h
  · rintro rfl; rfl
theorem beq_toList (x y : ByteArray) : (x.toList == y.toList) = decide (x = y) := by
  rw [Bool.eq_iff_iff]
  simp [toList_inj]

/-- What the call owns reads as a slice of strings. -/
theorem Strs.of_own {w : World} {base e : Nat} {v : Value} {xs : List ByteArray} (hf : ∀ x ∈ xs, x.size ≤ 9223372036854775807) (h : w.ownsRow base e 1 v xs.length (xs.map .string)) : Strs w v xs := by
  rcases h.2 with ⟨rfl, h0⟩ | ⟨g, cap, cur, rfl, hb, hg, hnc, hm, hs, htake⟩
  · have : xs = [] := List.eq_nil_of_length_eq_zero h0
    subst this
    exact ⟨⟨by simp, hf⟩, none, 0, rfl, Nat.le_refl _, by omega, fun hn => absurd rfl hn⟩
  · refine ⟨⟨by simp only [maxLen] at hm; omega, hf⟩, _, _, rfl, hnc, by simp only [maxLen] at hm; omega, fun hn => ⟨g, 0, rfl, (Array.getElem?_eq_some_iff.1 hg).1, fun j u hu => ?_⟩⟩
    have := h.cells (g := g) rfl j u hu
    rw [add_lit] at this
    exact this
theorem Strs.take {w : World} {A : Option Addr} {c : Nat} {xs : List ByteArray} (h : Strs w (.slice A xs.length c) xs) {k : Nat} (hk : k ≤ xs.length) : Strs w (.slice A k c) (xs.take k) := by
  obtain ⟨hm, A', c', e, h1, h2, hc⟩ := h
  simp only [Value.slice.injEq, true_and] at e
  obtain ⟨rfl, rfl⟩ := e
  refine ⟨⟨by have := hm.1; rw [List.length_take]; omega, fun x hx => hm.2 x (List.mem_of_mem_take hx)⟩, A, c, by rw [List.length_take, Nat.min_eq_left hk], by rw [List.length_take]; omega, h2, fun hn => ?_⟩
  obtain ⟨b, off, e, hl, hcell⟩ := hc (by
    intro h0
    apply hn
    have : xs = [] := by simpa using h0
    subst this
    simp)
  refine ⟨b, off, e, hl, fun j u hu => hcell j u ?_⟩
  rw [List.map_take, List.getElem?_take] at hu
  split at hu
  · exact hu
  · cases hu
end Go.Proofs.Ytjjmbldgemnhbaa
