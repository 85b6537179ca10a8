/-
  Expressions: how one lies in memory.
-/
import Derived.Test.YtghemlokpfipoaaYFrame
import Derived.Test.YtghemlokpfipoaaYPlain
import Derived.Test.YtghemlokpfipoaaYTrod
import Derived.Test.YtghemlokpfipoaaYD1
namespace Go.Proofs.Ytghemlokpfipoaa
open Go.ChangeShapes Go.WideShapes Go.ChangeAt Go.RowKit
set_option linter.unusedVariables false
set_option linter.unusedSimpArgs false

inductive Ex where
  | mk (kind n : Int) (text : ByteArray) (args : List Ex)

/-- An expression that lies in memory: its four cells, and what its slice leads to; the blocks are of a kind S. -/
inductive ExAt (w : World) (S : Nat → Prop) : Ex → List Value → Prop
  | mk (k n : Int) (t : ByteArray) (args : List Ex) (A : Option Addr) (c : Nat) (F : Nat → List Value)
      (fit : Between64 k ∧ Between64 n ∧ t.size ≤ 9223372036854775807 ∧ args.length ≤ c ∧ c ≤ 9223372036854775807)
      (hA : args ≠ [] → ∃ b off, A = some ⟨b, off, none⟩ ∧ b < w.heap.size ∧ S b ∧ ∀ i, i < args.length → ∀ j u, (F i)[j]? = some u → w.cell? ⟨b, off + (i * 4 + j), none⟩ = some u)
      (hF : ∀ i (h : i < args.length), ExAt w S args[i] (F i)) : ExAt w S (.mk k n t args) [.int .i64 k, .int .i64 n, .string t, .slice A args.length c]

theorem ExAt.keep {w w' : World} {S S' : Nat → Prop} {e : Ex} {cs : List Value} (h : ExAt w S e cs) (hb : ∀ b, S b → b < w.heap.size → S' b ∧ b < w'.heap.size ∧ w'.heap[b]? = w.heap[b]?) : ExAt w' S' e cs := by
  induction h with
  | mk k n t args A c F fit hA hF ih =>
    refine .mk k n t args A c F fit (fun hn => ?_) ih
    obtain ⟨b, off, e, hl, hs, hc⟩ := hA hn
    obtain ⟨h1, h2, h3⟩ := hb b hs hl
    exact ⟨b, off, e, h2, h1, fun i hi j u hu => (World.cell?_of_block (w := w) (a := ⟨b, _, none⟩) h3).trans (hc i hi j u hu)⟩
theorem ExAt.later {w w' : World} {S : Nat → Prop} {e : Ex} {cs : List Value} (h : ExAt w S e cs) (hb : Later w w') : ExAt w' S e cs :=
  h.keep fun b hs hl => ⟨hs, Nat.lt_of_lt_of_le hl hb.size, Below.block hb b hl⟩
theorem ExAt.more {w : World} {S S' : Nat → Prop} {e : Ex} {cs : List Value} (h : ExAt w S e cs) (hS : ∀ b, S b → S' b) : ExAt w S' e cs :=
  h.keep fun b hs hl => ⟨hS b hs, hl, rfl⟩

theorem ExAt.four {w : World} {S : Nat → Prop} {e : Ex} {cs : List Value} (h : ExAt w S e cs) : ∃ y0 y1 y2 y3 y4 y5, cs = [.int .i64 y0, .int .i64 y1, .string y2, .slice y3 y4 y5] := by
  cases h
  exact ⟨_, _, _, _, _, _, rfl⟩
def ExprAt (w : World) (v : Value) (e : Ex) : Prop := ∃ cs, v = .agg cs.toArray ∧ ExAt w anyB e cs
/-- A slice of expressions. -/
def ExsAt (w : World) (S : Nat → Prop) (v : Value) (args : List Ex) : Prop :=
  ∃ (A : Option Addr) (c : Nat) (F : Nat → List Value), v = .slice A args.length c ∧ args.length ≤ c ∧ c ≤ 9223372036854775807 ∧
    (args ≠ [] → ∃ b off, A = some ⟨b, off, none⟩ ∧ b < w.heap.size ∧ S b ∧ ∀ i, i < args.length → ∀ j u, (F i)[j]? = some u → w.cell? ⟨b, off + (i * 4 + j), none⟩ = some u) ∧
    ∀ i (h : i < args.length), ExAt w S args[i] (F i)
theorem ExAt.parts {w : World} {S : Nat → Prop} {k n : Int} {t : ByteArray} {args : List Ex} {cs : List Value} (h : ExAt w S (.mk k n t args) cs) :
    ∃ v, cs = [.int .i64 k, .int .i64 n, .string t, v] ∧ Between64 k ∧ Between64 n ∧ t.size ≤ 9223372036854775807 ∧ ExsAt w S v args := by
  cases h with
  | mk _ _ _ _ A c F fit hA hF => exact ⟨_, rfl, fit.1, fit.2.1, fit.2.2.1, A, c, F, rfl, fit.2.2.2.1, fit.2.2.2.2, hA, hF⟩
theorem ExAt.make {w : World} {S : Nat → Prop} {k n : Int} {t : ByteArray} {args : List Ex} {v : Value} (hk : Between64 k) (hn : Between64 n) (ht : t.size ≤ 9223372036854775807) (h : ExsAt w S v args) :
    ExAt w S (.mk k n t args) [.int .i64 k, .int .i64 n, .string t, v] := by
  obtain ⟨A, c, F, rfl, h1, h2, hA, hF⟩ := h
  exact .mk k n t args A c F ⟨hk, hn, ht, h1, h2⟩ hA hF
theorem ExsAt.keep {w w' : World} {S S' : Nat → Prop} {v : Value} {args : List Ex} (h : ExsAt w S v args) (hb : ∀ b, S b → b < w.heap.size → S' b ∧ b < w'.heap.size ∧ w'.heap[b]? = w.heap[b]?) : ExsAt w' S' v args := by
  obtain ⟨A, c, F, e, h1, h2, hA, hF⟩ := h
  refine ⟨A, c, F, e, h1, h2, fun hn => ?_, fun i hi => (hF i hi).keep hb⟩
  obtain ⟨b, off, e, hl, hs, hc⟩ := hA hn
  obtain ⟨g1, g2, g3⟩ := hb b hs hl
  exact ⟨b, off, e, g2, g1, fun i hi j u hu => (World.cell?_of_block (w := w) (a := ⟨b, _, none⟩) g3).trans (hc i hi j u hu)⟩
theorem ExsAt.later {w w' : World} {S : Nat → Prop} {v : Value} {args : List Ex} (h : ExsAt w S v args) (hb : Later w w') : ExsAt w' S v args :=
  h.keep fun b hs hl => ⟨hs, Nat.lt_of_lt_of_le hl hb.size, Below.block hb b hl⟩
/-- A slice of expressions of each of which Q holds. -/
def ExsQ (w : World) (S : Nat → Prop) (Q : Ex → List Value → Prop) (v : Value) (args : List Ex) : Prop :=
  ∃ (A : Option Addr) (c : Nat) (F : Nat → List Value), v = .slice A args.length c ∧ args.length ≤ c ∧ c ≤ 9223372036854775807 ∧
    (args ≠ [] → ∃ b off, A = some ⟨b, off, none⟩ ∧ b < w.heap.size ∧ S b ∧ ∀ i, i < args.length → ∀ j u, (F i)[j]? = some u → w.cell? ⟨b, off + (i * 4 + j), none⟩ = some u) ∧
    ∀ i (h : i < args.length), ExAt w S args[i] (F i) ∧ Q args[i] (F i)
theorem ExsQ.at_ {w w' : World} {S : Nat → Prop} {Q : Ex → List Value → Prop} {A : Option Addr} {n c : Nat} {args : List Ex} (h : ExsQ w S Q (.slice A n c) args) (hw : Later w w') {k : Nat} (hk : k < args.length) :
    ∃ b off y0 y1 y2 y3 y4 y5, A = some ⟨b, off, none⟩ ∧ b < w.heap.size ∧ ExAt w S args[k] [.int .i64 y0, .int .i64 y1, .string y2, .slice y3 y4 y5] ∧ Q args[k] [.int .i64 y0, .int .i64 y1, .string y2, .slice y3 y4 y5] ∧
      w'.cell? ⟨b, off + k * 4, none⟩ = some (.int .i64 y0) ∧ w'.cell? ⟨b, off + k * 4 + 1, none⟩ = some (.int .i64 y1) ∧ w'.cell? ⟨b, off + k * 4 + 2, none⟩ = some (.string y2) ∧ w'.cell? ⟨b, off + k * 4 + 3, none⟩ = some (.slice y3 y4 y5) := by
  obtain ⟨A', c', F, e, h1, h2, hA, hF⟩ := h
  simp only [Value.slice.injEq] at e
  obtain ⟨rfl, rfl, rfl⟩ := e
  obtain ⟨b, off, e, hl, hs, hc⟩ := hA (by intro h0; subst h0; simp at hk)
  obtain ⟨y0, y1, y2, y3, y4, y5, hx⟩ := (hF k hk).1.four
  have hc' : ∀ j u, (F k)[j]? = some u → w'.cell? ⟨b, off + (k * 4 + j), none⟩ = some u := fun j u hu => (Below.cell hw (p := ⟨b, _, none⟩) hl).trans (hc k hk j u hu)
  rw [hx] at hc'
  exact ⟨b, off, y0, y1, y2, y3, y4, y5, e, hl, hx ▸ (hF k hk).1, hx ▸ (hF k hk).2, by simpa [Nat.add_assoc] using hc' 0 _ rfl, by simpa [Nat.add_assoc] using hc' 1 _ rfl, by simpa [Nat.add_assoc] using hc' 2 _ rfl, by simpa [Nat.add_assoc] using hc' 3 _ rfl⟩
theorem ExsQ.form {w : World} {S : Nat → Prop} {Q : Ex → List Value → Prop} {v : Value} {args : List Ex} (h : ExsQ w S Q v args) : ∃ A c, v = .slice A args.length c ∧ args.length ≤ c ∧ c ≤ 9223372036854775807 := by
  obtain ⟨A, c, F, e, h1, h2, _⟩ := h
  exact ⟨A, c, e, h1, h2⟩
/-- What is shown of an expression out of what holds of its arguments. -/
theorem ExAt.ind {w : World} {S : Nat → Prop} {Q : Ex → List Value → Prop} (step : ∀ k n t args v, Between64 k → Between64 n → t.size ≤ 9223372036854775807 → ExsQ w S Q v args → Q (.mk k n t args) [.int .i64 k, .int .i64 n, .string t, v])
    {e : Ex} {cs : List Value} (h : ExAt w S e cs) : Q e cs := by
  induction h with
  | mk k n t args A c F fit hA hF ih =>
    exact step k n t args _ fit.1 fit.2.1 fit.2.2.1 ⟨A, c, F, rfl, fit.2.2.2.1, fit.2.2.2.2, hA, fun i hi => ⟨hF i hi, ih i hi⟩⟩
/-- A property of the expressions of a slice. -/
theorem ExsAt.with_ {w : World} {S : Nat → Prop} {Q : Ex → List Value → Prop} {v : Value} {args : List Ex} (h : ExsAt w S v args) (hQ : ∀ e cs, e ∈ args → ExAt w S e cs → Q e cs) : ExsQ w S Q v args := by
  obtain ⟨A, c, F, e, h1, h2, hA, hF⟩ := h
  exact ⟨A, c, F, e, h1, h2, hA, fun i hi => ⟨hF i hi, hQ _ _ (List.getElem_mem hi) (hF i hi)⟩⟩

section
variable {H : Type} {enc : TypeId × Value → H} {w : World} {sp : Nat → Bool} {held : Bool}
/-- An argument that is an expression. -/
theorem ex_of_trod {t ts : TypeId} {fs : Array Field} (hu : Try.prog.underlying t = some (.struct fs)) (hone : Go.Deep.oneCellFields Try.prog fs = true) (hC : Try.prog.cellsOf t = fs.size) (h4 : fs.size = 4)
    (f0 : (fs[0]?).map Field.type = some 3) (f1 : (fs[1]?).map Field.type = some 3) (f2 : (fs[2]?).map Field.type = some 9) (f3 : (fs[3]?).map Field.type = some ts)
    (hs : Try.prog.underlying ts = some (.slice t)) : ∀ (fuel : Nat) (cs : List Value) (x : DataW H × List MemPlace), DataW.trod enc Try.prog w 0 sp held fuel t cs = some x → ∃ e, ExAt w anyB e cs := by
  intro fuel
  induction fuel using Nat.strongRecOn with
  | _ fuel ih =>
  intro cs x h
  obtain ⟨m, hm, hl, hf⟩ := struct_cells hu hone hC h
  rw [h4] at hl
  match cs, hl with
  | [c0, c1, c2, c3], _ =>
    obtain ⟨_, y0, e0, h0⟩ := hf 0 _ f0
    obtain ⟨_, y1, e1, h1⟩ := hf 1 _ f1
    obtain ⟨_, y2, e2, h2⟩ := hf 2 _ f2
    obtain ⟨_, y3, e3, h3⟩ := hf 3 _ f3
    simp only [List.getElem?_cons_zero, List.getElem?_cons_succ, Option.some.injEq] at e0 e1 e2 e3
    subst e0 e1 e2 e3
    obtain ⟨a, ea, _, wa⟩ := DataW.trod_int Try.underlying3 h0
    obtain ⟨b, eb, _, wb⟩ := DataW.trod_int Try.underlying3 h1
    obtain ⟨s, es, _, ws⟩ := DataW.trod_string Try.underlying9 h2
    simp only [List.cons.injEq, and_true] at ea eb es
    subst ea eb es
    have hws : s.size ≤ 9223372036854775807 := by simp only [maxLen] at ws; omega
    rcases DataW.trod_slice hs h3 with ⟨hcs, _⟩ | ⟨ad, len, cap, elems, rest, m', hm', hcs, _, _, hl, hmx, hlen, hel, _⟩
    · simp only [List.cons.injEq, and_true] at hcs
      subst hcs
      exact ⟨.mk a b s [], .mk a b s [] none 0 (fun _ => []) ⟨i64_of_wf wa, i64_of_wf wb, hws, Nat.le_refl _, by omega⟩ (fun hn => absurd rfl hn) (fun i hi => absurd hi (by simp))⟩
    · simp only [List.cons.injEq, and_true] at hcs
      subst hcs
      rw [hC, h4] at hel
      have hall : ∀ i, i < len → ∃ ec : Ex × List Value, (∀ j, j < 4 → w.cell? ((ad.add (i * 4)).add j) = ec.2[j]?) ∧ ec.2.length = 4 ∧ ExAt w anyB ec.1 ec.2 := by
        intro i hi
        have hx := hel i hi
        rw [List.getElem?_eq_getElem (by omega)] at hx
        simp only [Option.bind_eq_some_iff] at hx
        obtain ⟨cs', hc, hd⟩ := hx
        obtain ⟨_, hcl, hat⟩ := World.cells?_some hc
        obtain ⟨e, he⟩ := ih m' (by omega) cs' _ hd
        exact ⟨(e, cs'), hat, hcl, he⟩
      have : Inhabited (Ex × List Value) := ⟨(.mk 0 0 ByteArray.empty [], [])⟩
      obtain ⟨S, hS⟩ := Go.Deep.choose_lt hall
      have hmk := ExAt.mk (w := w) (S := anyB) a b s ((List.range len).map fun i => (S i).1) (some ad) cap (fun i => (S i).2) ⟨i64_of_wf wa, i64_of_wf wb, hws, by simpa using hl, by simp only [maxLen] at hmx; omega⟩ (fun hn => by
        have hn0 : 0 < len := by
          rcases Nat.eq_zero_or_pos len with h0 | h0
          · subst h0; simp at hn
          · exact h0
        have g0 := (hS 0 hn0).1 0 (by omega)
        have g1 : w.cell? ad = some ((S 0).2[0]'(by have := (hS 0 hn0).2.1; omega)) := by
          rw [← List.getElem?_eq_getElem]
          simpa [Addr.add] using g0
        have hsp := spot_none g1
        refine ⟨ad.block, ad.off, by rw [← hsp], World.block_lt_of_cell? w _ g1, trivial, fun i hi j u hu => ?_⟩
        have hi' : i < len := by simpa using hi
        have hj : j < 4 := by
          have := (List.getElem?_eq_some_iff.1 hu).1
          have := (hS i hi').2.1
          omega
        have := (hS i hi').1 j hj
        rw [hsp, add_lit, add_lit, hu, Nat.add_assoc] at this
        exact this) (fun i hi => by
          have hi' : i < len := by simpa using hi
          simpa using (hS i hi').2.2)
      simp only [List.length_map, List.length_range] at hmk
      exact ⟨_, hmk⟩
end

/-! Plain words on expressions. -/
mutual
def Ex.count : Ex → Nat
  | .mk _ _ _ args => 1 + Ex.counts args
def Ex.counts : List Ex → Nat
  | [] => 0
  | e :: es => e.count + Ex.counts es
end
mutual
def Ex.cost : Ex → Nat
  | .mk _ _ t args => t.size + (args.length + Ex.costs args)
def Ex.costs : List Ex → Nat
  | [] => 0
  | e :: es => e.cost + Ex.costs es
end
mutual
def Ex.depth : Ex → Nat
  | .mk _ _ _ args => Ex.depths args + 1
def Ex.depths : List Ex → Nat
  | [] => 0
  | e :: es => max e.depth (Ex.depths es)
end
def isEff (t : ByteArray) : Bool := t.toList == [99, 108, 111, 99, 107] || (t.toList == [99, 104, 97, 110, 99, 101] || t.toList == [102, 105, 108, 101])
mutual
def Ex.hasEff : Ex → Bool
  | .mk k _ t args => (decide (k = 5) && isEff t) || Ex.hasEffs args
def Ex.hasEffs : List Ex → Bool
  | [] => false
  | e :: es => e.hasEff || Ex.hasEffs es
end
mutual
def Ex.eqv : Ex → Ex → Bool
  | .mk k n t args, .mk k' n' t' args' => decide (k = k') && (decide (n = n') && (decide (t = t') && Ex.eqvs args args'))
def Ex.eqvs : List Ex → List Ex → Bool
  | [], [] => true
  | e :: es, f :: fs => e.eqv f && Ex.eqvs es fs
  | [], _ :: _ => false
  | _ :: _, [] => false
end
theorem counts_append (a b : List Ex) : Ex.counts (a ++ b) = Ex.counts a + Ex.counts b := by
  induction a with
  | nil => simp [Ex.counts]
  | cons e es ih => simp only [List.cons_append, Ex.counts, ih]; omega
theorem costs_append (a b : List Ex) : Ex.costs (a ++ b) = Ex.costs a + Ex.costs b := by
  induction a with
  | nil => simp [Ex.costs]
  | cons e es ih => simp only [List.cons_append, Ex.costs, ih]; omega
theorem depths_append (a b : List Ex) : Ex.depths (a ++ b) = max (Ex.depths a) (Ex.depths b) := by
  induction a with
  | nil => simp [Ex.depths]
  | cons e es ih => simp only [List.cons_append, Ex.depths, ih]; omega
theorem hasEffs_append (a b : List Ex) : Ex.hasEffs (a ++ b) = (Ex.hasEffs a || Ex.hasEffs b) := by
  induction a with
  | nil => simp [Ex.hasEffs]
  | cons e es ih => simp only [List.cons_append, Ex.hasEffs, ih, Bool.or_assoc]
theorem take_succ_ex {args : List Ex} {k : Nat} (hk : k < args.length) : args.take (k + 1) = args.take k ++ [args[k]] := List.take_succ_eq_append_getElem hk
theorem counts_succ {args : List Ex} {k : Nat} (hk : k < args.length) : Ex.counts (args.take (k + 1)) = Ex.counts (args.take k) + args[k].count := by
  rw [take_succ_ex hk, counts_append]; simp [Ex.counts]
theorem costs_succ {args : List Ex} {k : Nat} (hk : k < args.length) : Ex.costs (args.take (k + 1)) = Ex.costs (args.take k) + args[k].cost := by
  rw [take_succ_ex hk, costs_append]; simp [Ex.costs]
theorem depths_succ {args : List Ex} {k : Nat} (hk : k < args.length) : Ex.depths (args.take (k + 1)) = max (Ex.depths (args.take k)) args[k].depth := by
  rw [take_succ_ex hk, depths_append]; simp [Ex.depths]
theorem hasEffs_succ {args : List Ex} {k : Nat} (hk : k < args.length) : Ex.hasEffs (args.take (k + 1)) = (Ex.hasEffs (args.take k) || args[k].hasEff) := by
  rw [take_succ_ex hk, hasEffs_append]; simp [Ex.hasEffs]
theorem counts_le (args : List Ex) (k : Nat) : Ex.counts (args.take k) ≤ Ex.counts args := by
  conv => rhs; rw [← List.take_append_drop k args, counts_append]
  exact Nat.le_add_right _ _
theorem costs_le (args : List Ex) (k : Nat) : Ex.costs (args.take k) ≤ Ex.costs args := by
  conv => rhs; rw [← List.take_append_drop k args, costs_append]
  exact Nat.le_add_right _ _
theorem depths_le (args : List Ex) (k : Nat) : Ex.depths (args.take k) ≤ Ex.depths args := by
  conv => rhs; rw [← List.take_append_drop k args, depths_append]
  exact Nat.le_max_left _ _
mutual
theorem count_le : ∀ e : Ex, e.count ≤ 1 + e.cost
  | .mk _ _ t args => by have := counts_le_costs args; simp only [Ex.count, Ex.cost]; omega
theorem counts_le_costs : ∀ args : List Ex, Ex.counts args ≤ args.length + Ex.costs args
  | [] => by simp [Ex.counts, Ex.costs]
  | e :: es => by have := count_le e; have := counts_le_costs es; simp only [Ex.counts, Ex.costs, List.length_cons]; omega
end
mutual
theorem ex_depth_le : ∀ e : Ex, e.depth ≤ e.count
  | .mk _ _ t args => by have := depths_le_counts args; simp only [Ex.depth, Ex.count]; omega
theorem depths_le_counts : ∀ args : List Ex, Ex.depths args ≤ Ex.counts args
  | [] => by simp [Ex.depths, Ex.counts]
  | e :: es => by have := ex_depth_le e; have := depths_le_counts es; simp only [Ex.depths, Ex.counts]; omega
end
mutual
theorem eqv_self : ∀ e : Ex, e.eqv e = true
  | .mk _ _ t args => by simp [Ex.eqv, eqvs_self args]
theorem eqvs_self : ∀ args : List Ex, Ex.eqvs args args = true
  | [] => by simp [Ex.eqvs]
  | e :: es => by simp [Ex.eqvs, eqv_self e, eqvs_self es]
end
theorem eqvs_len : ∀ {a b : List Ex}, a.length ≠ b.length → Ex.eqvs a b = false
  | [], [], h => absurd rfl h
  | [], _ :: _, _ => by simp [Ex.eqvs]
  | _ :: _, [], _ => by simp [Ex.eqvs]
  | x :: xs, y :: ys, h => by rw [Ex.eqvs, eqvs_len (a := xs) (b := ys) (by simpa using h), Bool.and_false]
theorem eqvs_at : ∀ {a b : List Ex} {k : Nat} (h1 : k < a.length) (h2 : k < b.length), a[k].eqv b[k] = false → Ex.eqvs a b = false
  | x :: xs, y :: ys, 0, _, _, h => by simp at h; simp [Ex.eqvs, h]
  | x :: xs, y :: ys, k + 1, h1, h2, h => by
    rw [Ex.eqvs, eqvs_at (a := xs) (b := ys) (k := k) (by simpa using h1) (by simpa using h2) (by simpa using h), Bool.and_false]
theorem eqvs_all : ∀ {a b : List Ex}, a.length = b.length → (∀ k, (h1 : k < a.length) → (h2 : k < b.length) → a[k].eqv b[k] = true) → Ex.eqvs a b = true
  | [], [], _, _ => by simp [Ex.eqvs]
  | x :: xs, y :: ys, hl, h => by
    have h0 := h 0 (by simp) (by simp)
    simp at h0
    rw [Ex.eqvs, h0, Bool.true_and]
    exact eqvs_all (by simpa using hl) fun k h1 h2 => by have := h (k + 1) (by simpa using h1) (by simpa using h2); simpa only [List.getElem_cons_succ] using this
end Go.Proofs.Ytghemlokpfipoaa
