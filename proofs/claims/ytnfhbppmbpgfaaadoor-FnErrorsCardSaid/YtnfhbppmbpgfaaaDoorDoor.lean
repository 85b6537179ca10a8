/-
  The variable errorNames: what the row's condition gives; what it reads as behind the call.
-/
import Derived.Test.YtnfhbppmbpgfaaaDoorErr
import Derived.LaidMore
import Derived.Stop.Joined
import Derived.MakeChecks
namespace Go.Proofs.YtnfhbppmbpgfaaaDoor
open Go.ChangeShapes Go.WideShapes Go.ChangeAt Go.RowKit
set_option linter.unusedVariables false
set_option linter.unusedSimpArgs false

section
variable {H : Type} {enc : TypeId × Value → H} {P : Program} {w : World} {sp : Nat → Bool} {held : Bool}
/-- A slice of strings, with its datum. -/
theorem strs_of_trod_data {t e : TypeId} {fuel : Nat} {A : Option Addr} {n c : Nat} {x : DataW H × List MemPlace} (ht : P.underlying t = some (.slice e)) (he : P.underlying e = some .string) (h1 : P.cellsOf e = 1)
    (h : DataW.trod enc P w 0 sp held fuel t [.slice A n c] = some x) : x.1 = .nil ∨ ∃ xs rest, Strs w (.slice A n c) xs ∧ x.1 = .slice (xs.map fun s => .lit (.string s.data.toList)) rest := by
  rcases DataW.trod_slice ht h with ⟨hcs, rfl⟩ | ⟨a, len, cap, elems, rest, m, _, hcs, rfl, _, hl, hm, hlen, hel, _⟩
  · exact .inl rfl
  · right
    simp only [List.cons.injEq, Value.slice.injEq, and_true] at hcs
    obtain ⟨rfl, rfl, rfl⟩ := hcs
    have hall : ∀ i, i < n → ∃ s : ByteArray, (w.cell? (a.add i) = some (.string s) ∧ s.size ≤ maxLen) ∧ (elems[i]?).map (·.1) = some (.lit (.string s.data.toList)) := by
      intro i hi
      have hx := hel i hi
      have he' : elems[i]? = some (elems[i]'(by omega)) := List.getElem?_eq_getElem (by omega)
      rw [he'] at hx ⊢
      simp only [h1, Nat.mul_one, Option.bind_eq_some_iff] at hx
      obtain ⟨cs', hc, hd⟩ := hx
      obtain ⟨s, rfl, e2, hsz⟩ := DataW.trod_string he hd
      obtain ⟨_, _, hat⟩ := World.cells?_some hc
      exact ⟨s, ⟨by simpa [Addr.add] using hat 0 (by omega), hsz⟩, by rw [e2]; rfl⟩
    obtain ⟨S, hS⟩ := Go.Deep.choose_lt hall
    refine ⟨(List.range n).map S, rest.map (·.1), ⟨⟨by simp; simp only [maxLen] at hm; omega, fun x hx => ?_⟩, some a, c, by simp, by simpa using hl, by simp only [maxLen] at hm; omega, fun hn => ?_⟩, ?_⟩
    · obtain ⟨i, hi, rfl⟩ := List.mem_map.1 hx
      have := (hS i (by simpa using hi)).1.2
      simp only [maxLen] at this
      omega
    · have hn0 : 0 < n := by
        rcases Nat.eq_zero_or_pos n with h0 | h0
        · subst h0; simp at hn
        · exact h0
      have h0 := (hS 0 hn0).1.1
      have hsp := spot_none (by simpa [Addr.add] using h0)
      refine ⟨a.block, a.off, by rw [← hsp], ?_, fun j u hu => ?_⟩
      · have := World.block_lt_of_cell? w _ h0
        simpa [Addr.add] using this
      · have hj : j < n := by
          have := (List.getElem?_eq_some_iff.1 hu).1
          simpa using this
        have hu' : u = .string (S j) := by simpa [hj] using hu.symm
        have hj' := (hS j hj).1.1
        rw [hsp] at hj'
        rw [add_lit] at hj'
        rw [hu']
        exact hj'
    · simp only [DataW.slice.injEq, and_true]
      refine List.ext_getElem? fun i => ?_
      by_cases hi : i < n
      · have := (hS i hi).2
        rw [List.getElem?_map, this]
        simp [hi]
      · rw [List.getElem?_eq_none (by simp; omega), List.getElem?_eq_none (by simp; omega)]
end

theorem gErr : Tryd.prog.globalNamed "loop.example/g00510/impl.errorNames" = some 0 := by kernel_rfl
theorem tErr : (Tryd.prog.globals[0]?).map (·.type) = some 35 := by kernel_rfl
def laidErr : List (String × DataW Unit) := [("loop.example/g00510/impl.errorNames", Rows.laid_loop_example_g00510_impl_errorNames)]

theorem strLit_inj {H : Type} : ∀ x y : ByteArray, (DataW.lit (.string x.data.toList) : DataW H) = .lit (.string y.data.toList) → x = y := by
  intro x y h
  simp only [DataW.lit.injEq, Lit.string.injEq] at h
  exact toList_inj.1 (by rw [ByteArray.toList_eq, ByteArray.toList_eq, h])

/-- What the condition gives. -/
theorem err_of_laid {W : World} (h : laidMetH Tryd.prog laidErr W) : ErrAt W := by
  rw [MakeChecks.laidMetH_plain _ _ _ (by kernel_rfl)] at h
  obtain ⟨ps, ⟨g0, t0, cs0, f0, p0, q0, hg0, ht0, hv0, hd0, _, _⟩, _, _⟩ := h
  obtain rfl := Option.some.inj (gErr.symm.trans hg0)
  obtain rfl := Option.some.inj (tErr.symm.trans ht0)
  have hc := World.var?_cell hg0 hv0 0
  obtain ⟨l⟩ := cs0
  have hsl : ∃ A n c, l = [.slice A n c] := by
    rcases DataW.trod_slice Tryd.underlying35 hd0 with ⟨hcs, _⟩ | ⟨a, len, cap, _, _, _, _, hcs, _⟩
    · exact ⟨_, _, _, hcs⟩
    · exact ⟨_, _, _, hcs⟩
  obtain ⟨A, n, c, rfl⟩ := hsl
  rcases strs_of_trod_data Tryd.underlying35 Tryd.underlying9 (by kernel_rfl) hd0 with hn | ⟨xs, rest, hs, hx⟩
  · cases hn
  · have e : (errList.map fun s => (DataW.lit (.string s.data.toList) : DataW Unit)) = xs.map fun s => .lit (.string s.data.toList) := by
      have := (DataW.slice.inj hx).1
      exact this
    have : errList = xs := (List.map_inj_right (fun x y h => strLit_inj x y h)).1 e
    subst this
    exact ⟨_, hc, hs⟩

/-- The variable reads behind the call as it read before. -/
theorem err_vars {H : Type} {enc : TypeId × Value → H} {W W' : World} {gs : List (DataW H)} {q : List MemPlace} (hV : DataW.TrodVars enc Tryd.prog W (fun _ => true) ["loop.example/g00510/impl.errorNames"] gs q) (bel : Below W.heap.size W W') :
    ∃ g1, gs = [g1] ∧ ∃ pv, DataW.TrodVars enc Tryd.prog W' (fun b => decide (b < W.heap.size)) ["loop.example/g00510/impl.errorNames"] [g1] pv := by
  obtain ⟨g, t, cs, fuel, d, p, rfl, hg, ht, hv, hd, rfl⟩ := trodVars_one hV
  obtain rfl := Option.some.inj (tErr.symm.trans (by rw [← ht, Option.some.inj (gErr.symm.trans hg)]))
  have hT : DataW.Trod enc Tryd.prog W 0 (fun _ => true) true 35 (.agg cs) d p := ⟨fuel, hd⟩
  have lt : ∀ x ∈ p, x.block < W.heap.size := DataW.trod_lt fuel _ _ _ hd
  obtain ⟨fuel', hd'⟩ := Below.trod laidOut_ (by kernel_rfl) (of_decide_eq_true (by kernel_rfl)) hT bel lt
  have hgB : g < W.heap.size := by
    unfold World.var? at hv
    simp only [hg, Option.bind_some] at hv
    rcases Nat.lt_or_ge g W.heap.size with hlt | hge
    · exact hlt
    · rw [Array.getElem?_eq_none hge] at hv
      simp at hv
  exact ⟨d, rfl, _, trodVars_mk1 hg ht (var?_below bel hg hgB hv) hd'⟩

/-- The door's own heap meets the condition. -/
theorem door_met (os : Os) (args : Array Value) : laidMetH Tryd.prog laidErr ((World.doorLaid Tryd.prog 77 os).forCall (fun _ _ => 0) ⟨#[], args, []⟩).memory :=
  laidMetH_of_parts3 (fuel := 8) (laidMet_of_run' 8 (by kernel_rfl) (by kernel_rfl)) (by kernel_rfl) (by kernel_rfl)
end Go.Proofs.YtnfhbppmbpgfaaaDoor
