/-
  Expressions as data; how they lie; an expression that a call has drawn.
-/
import Derived.Test.YtghemlokpfipoaaYExpr
import Derived.Test.YtghemlokpfipoaaYDP
namespace Go.Proofs.Ytghemlokpfipoaa
open Go.RowKit Go.ChangeShapes Go.WideShapes
set_option linter.unusedVariables false
set_option linter.unusedSimpArgs false

mutual
def encE : Ex → List Dt
  | .mk k n t args => [.int k, .int n, .str t, .sl 4 args.length (encEs args)]
def encEs : List Ex → List Dt
  | [] => []
  | e :: es => encE e ++ encEs es
end
theorem encEs_eq : ∀ l : List Ex, encEs l = l.flatMap encE
  | [] => rfl
  | v :: vs => by rw [encEs, encEs_eq vs, List.flatMap_cons]
theorem encE_len : ∀ v : Ex, (encE v).length = 4
  | .mk .. => by rw [encE]; rfl
theorem encE_mk (k n : Int) (t : ByteArray) (args : List Ex) : encE (.mk k n t args) = [.int k, .int n, .str t, .sl 4 args.length (args.flatMap encE)] := by rw [encE, encEs_eq]
theorem Ex.shape (e : Ex) : ∃ k n t args, e = .mk k n t args := by cases e; exact ⟨_, _, _, _, rfl⟩
mutual
theorem Ex.indE {Q : Ex → Prop} (h : ∀ k n t args, (∀ x, x ∈ args → Q x) → Q (.mk k n t args)) : ∀ d, Q d
  | .mk k n t args => h k n t args (Ex.indEs h args)
theorem Ex.indEs {Q : Ex → Prop} (h : ∀ k n t args, (∀ x, x ∈ args → Q x) → Q (.mk k n t args)) : ∀ (l : List Ex) x, x ∈ l → Q x
  | [], x, hx => by simp at hx
  | v :: vs, x, hx => by
    rcases List.mem_cons.1 hx with e | e
    · rw [e]; exact Ex.indE h v
    · exact Ex.indEs h vs x e
end
theorem Ats.ex {w : World} {S : Nat → Prop} {k n : Int} {t : ByteArray} {args : List Ex} {cs : List Value} (h : Ats w S (encE (.mk k n t args)) cs) :
    ∃ v, cs = [.int .i64 k, .int .i64 n, .string t, v] ∧ Between64 k ∧ Between64 n ∧ t.size ≤ 9223372036854775807 ∧ At w S (.sl 4 args.length (args.flatMap encE)) v := by
  rw [encE_mk] at h
  cases h with
  | cons h0 h =>
    cases h with
    | cons h1 h =>
      cases h with
      | cons h2 h =>
        cases h with
        | cons h3 h =>
          cases h
          obtain ⟨rfl, b0⟩ := h0.int_inv
          obtain ⟨rfl, b1⟩ := h1.int_inv
          obtain ⟨rfl, b2⟩ := h2.str_inv
          exact ⟨_, rfl, b0, b1, b2, h3⟩
theorem Ats.mkE {w : World} {S : Nat → Prop} {k n : Int} {t : ByteArray} {args : List Ex} {v : Value} (h0 : Between64 k) (h1 : Between64 n) (h2 : t.size ≤ 9223372036854775807) (h : At w S (.sl 4 args.length (args.flatMap encE)) v) : Ats w S (encE (.mk k n t args)) [.int .i64 k, .int .i64 n, .string t, v] := by
  rw [encE_mk]
  exact .cons (.int _ h0) (.cons (.int _ h1) (.cons (.str _ h2) (.cons h .nil)))
/-- What lies as data lies as an expression. -/
theorem exAt_of {w : World} {S : Nat → Prop} : ∀ (e : Ex) (cs : List Value), Ats w S (encE e) cs → ExAt w S e cs := by
  refine Ex.indE fun k n t args ih cs h => ?_
  obtain ⟨v, rfl, b0, b1, b2, h⟩ := h.ex
  obtain ⟨A, c, rfl, h1, h2, hl⟩ := h.sl_inv
  by_cases hn : args = []
  · subst hn
    exact .mk k n t [] A c (fun _ => []) ⟨b0, b1, b2, h1, h2⟩ (fun h => absurd rfl h) (fun i hi => absurd hi (by simp))
  · have hpos : 0 < args.length := List.length_pos_iff.2 hn
    obtain ⟨b, off, rfl, hb, hS, hcell⟩ := h.cells (by intro e; rw [e] at hl; simp at hl; omega)
    have hall : ∀ i, i < args.length → ∃ us : List Value, (∀ j u, us[j]? = some u → w.cell? ⟨b, off + (i * 4 + j), none⟩ = some u) ∧ ∀ e, args[i]? = some e → Ats w S (encE e) us := by
      intro i hi
      have g := fun j (hj : j < 4) => flat_get encE_len args hi hj
      obtain ⟨k', n', t', a', e⟩ := Ex.shape args[i]
      rw [e] at g
      simp only [encE_mk] at g
      obtain ⟨u0, c0, d0⟩ := hcell _ _ (g 0 (by omega))
      obtain ⟨u1, c1, d1⟩ := hcell _ _ (g 1 (by omega))
      obtain ⟨u2, c2, d2⟩ := hcell _ _ (g 2 (by omega))
      obtain ⟨u3, c3, d3⟩ := hcell _ _ (g 3 (by omega))
      refine ⟨[u0, u1, u2, u3], fun j u hu => ?_, fun x hx => ?_⟩
      · match j, hu with
        | 0, hu => simp at hu; subst hu; exact c0
        | 1, hu => simp at hu; subst hu; exact c1
        | 2, hu => simp at hu; subst hu; exact c2
        | 3, hu => simp at hu; subst hu; exact c3
      · rw [List.getElem?_eq_getElem hi, e] at hx
        cases hx
        rw [encE_mk]
        exact .cons d0 (.cons d1 (.cons d2 (.cons d3 .nil)))
    obtain ⟨F, hF⟩ := Go.Deep.choose_lt hall
    refine .mk k n t args (some ⟨b, off, none⟩) c F ⟨b0, b1, b2, h1, h2⟩ (fun _ => ⟨b, off, rfl, hb, hS, fun i hi j u hu => (hF i hi).1 j u hu⟩) (fun i hi => ih _ (List.getElem_mem hi) _ ((hF i hi).2 _ (List.getElem?_eq_getElem hi)))

/-- A drawn expression's slice: a row of the call's own; what it leads to lies elsewhere; all of it in new memory. -/
def TopE (lo : Nat) (w : World) (args : List Ex) (v : Value) : Prop :=
  ∃ xs : List Value, w.ownsRow lo 67 4 v args.length xs ∧ ∀ (p : Nat) d u, (args.flatMap encE)[p]? = some d → xs[p]? = some u → At w (fun b => lo ≤ b ∧ v.ownBlock ≠ some b) d u
theorem TopE.nil (lo : Nat) (w : World) : TopE lo w [] (.slice none 0 0) := ⟨[], ⟨rfl, .inl ⟨rfl, rfl⟩⟩, fun p d u hd => by simp at hd⟩
theorem TopE.shape {lo : Nat} {w : World} {args : List Ex} {v : Value} (h : TopE lo w args v) : ∃ A c, v = .slice A args.length c := by
  obtain ⟨xs, h1, _⟩ := h
  obtain ⟨A, c, e, _⟩ := row_shape h1
  exact ⟨A, c, e⟩
theorem TopE.chg {lo : Nat} {w w' : World} {args : List Ex} {v : Value} {C : Nat → Prop} (h : TopE lo w args v) (c : Chg C w w') (hC : ∀ b, lo ≤ b → b < w.heap.size → ¬ C b) : TopE lo w' args v := by
  obtain ⟨xs, h1, h2⟩ := h
  exact ⟨xs, row_block h1 fun g hg => c.block g (h1.lt g hg).2 (hC g (h1.lt g hg).1 (h1.lt g hg).2), fun p d u hd hu => (h2 p d u hd hu).keep fun b hb hl => ⟨hb, Nat.lt_of_lt_of_le hl c.size, c.block b hl (hC b hb.1 hl)⟩⟩
theorem TopE.later {lo : Nat} {w w' : World} {args : List Ex} {v : Value} (h : TopE lo w args v) (hb : Later w w') : TopE lo w' args v := h.chg (hb.chg fun _ => False) fun _ _ _ h => h
theorem TopE.base {lo lo' : Nat} {w : World} {args : List Ex} {v : Value} (h : TopE lo w args v) (hl : lo' ≤ lo) : TopE lo' w args v := by
  obtain ⟨xs, ⟨h0, h1⟩, h2⟩ := h
  refine ⟨xs, ⟨h0, ?_⟩, fun p d u hd hu => (h2 p d u hd hu).more fun b hb => ⟨by omega, hb.2⟩⟩
  rcases h1 with h | ⟨g, cap, cur, e, hb, rest⟩
  · exact .inl h
  · exact .inr ⟨g, cap, cur, e, by omega, rest⟩
theorem row_at {w : World} {base e s n : Nat} {v : Value} {xs : List Value} {ds : List Dt} {S : Nat → Prop} (hown : w.ownsRow base e s v n xs) (hl : ds.length = n * s) (hS : ∀ g, v.ownBlock = some g → S g) (h : ∀ (p : Nat) d u, ds[p]? = some d → xs[p]? = some u → At w S d u) : At w S (.sl s n ds) v := by
  obtain ⟨A, c, rfl, h1, h2, h3⟩ := row_shape hown
  refine At.make hl h1 h2 fun hn => ?_
  have hn0 : 0 < n := by
    rcases Nat.eq_zero_or_pos n with h | h
    · subst h; simp at hl; exact absurd hl hn
    · exact h
  obtain ⟨g, rfl, hg⟩ := h3 hn0
  refine ⟨g, 0, rfl, (hown.lt g hg).2, hS g hg, fun i d hd => ?_⟩
  have hi : i < n * s := by rw [← hl]; exact (List.getElem?_eq_some_iff.1 hd).1
  have hu : xs[i]? = some (xs[i]'(by rw [hown.1]; exact hi)) := List.getElem?_eq_getElem _
  exact ⟨_, by rw [Nat.zero_add, hown.cellAt i hi, hu], h i d _ hd hu⟩
theorem TopE.at_ {lo : Nat} {w : World} {args : List Ex} {v : Value} (h : TopE lo w args v) : At w (fun b => lo ≤ b ∧ b < w.heap.size) (.sl 4 args.length (args.flatMap encE)) v := by
  obtain ⟨xs, h1, h2⟩ := h
  exact row_at h1 (flat_len encE_len args) (fun g hg => h1.lt g hg) fun p d u hd hu => (h2 p d u hd hu).keep fun b hb hl => ⟨⟨hb.1, hl⟩, hl, rfl⟩
theorem Pushed.top {lo : Nat} {w : World} {l : List Ex} {v : Value} (h : Pushed lo w 67 4 encE l v) : TopE lo w l v := by
  obtain ⟨xs, T, h1, h2, h3, h4⟩ := h
  exact ⟨xs, h1, fun p d u hd hu => (h4 p d u hd hu).at_.more fun b hb => ⟨(h2 p b hb).1, (h2 p b hb).2.2⟩⟩
theorem Ats.append {w : World} {S : Nat → Prop} {ds ds' : List Dt} {cs cs' : List Value} (h : Ats w S ds cs) (h' : Ats w S ds' cs') : Ats w S (ds ++ ds') (cs ++ cs') := by
  induction h with
  | nil => exact h'
  | cons h t ih => exact .cons h ih
/-- A slice that a literal makes. -/
theorem top_made {lo : Nat} {w : World} {es : List Ex} {us : List Value} (h : Ats w (fun b => lo ≤ b ∧ b < w.heap.size) (es.flatMap encE) us) (hlo : lo ≤ w.heap.size) (hm : es.length ≤ 100) :
    TopE lo (w.alloc (.cells us.toArray 67)) es (.slice (some ⟨w.heap.size, 0, none⟩) es.length es.length) := by
  have hl : us.length = es.length * 4 := by rw [h.len, flat_len encE_len]
  refine ⟨us, ⟨hl, .inr ⟨w.heap.size, es.length, us.toArray, rfl, hlo, heap_alloc_new w _, Nat.le_refl _, by unfold maxLen; omega, by simp [hl], by simp [← hl]⟩⟩, fun p d u hd hu => ?_⟩
  obtain ⟨c, hc, ha⟩ := h.at_ hd
  rw [hu] at hc
  cases hc
  refine (ha.later ((Later.rfl' w).alloc _)).more fun b hb => ⟨hb.1, fun e => ?_⟩
  simp only [Value.ownBlock, Option.some.injEq] at e
  omega

/-- Bounds of a drawn expression's own parts. -/
def SmallE (k n : Int) (t : ByteArray) : Prop := (-100 ≤ k ∧ k ≤ 100) ∧ (-2000000000 ≤ n ∧ n ≤ 2000000000) ∧ t.size ≤ 100
theorem SmallE.between {k n : Int} {t : ByteArray} (h : SmallE k n t) : Between64 k ∧ Between64 n ∧ t.size ≤ 9223372036854775807 := by
  obtain ⟨h1, h2, h4⟩ := h
  unfold Between64
  omega
/-- A drawn expression, its slice a row in new memory; the cursor's block alone has turned. -/
def DrawnX (M g : Nat) (W w' : World) (r : Ending) : Prop :=
  (∃ k n t args v, r = .returned (.agg #[.int .i64 k, .int .i64 n, .string t, v]) ∧ SmallE k n t ∧ (Ex.mk k n t args).cost ≤ M ∧ TopE W.heap.size w' args v) ∧ CurAt w' g ∧ Chg (onlyB g) W w'
theorem DrawnX.more {M M' g : Nat} {W w' : World} {r : Ending} (h : DrawnX M g W w' r) (hM : M ≤ M') : DrawnX M' g W w' r := by
  obtain ⟨⟨k, n, t, args, v, h1, h2, h3, h4⟩, h5⟩ := h
  exact ⟨⟨k, n, t, args, v, h1, h2, by omega, h4⟩, h5⟩
theorem TopE.ats {lo : Nat} {w : World} {k n : Int} {t : ByteArray} {args : List Ex} {v : Value} (h : TopE lo w args v) (hs : SmallE k n t) : Ats w (fun b => lo ≤ b ∧ b < w.heap.size) (encE (.mk k n t args)) [.int .i64 k, .int .i64 n, .string t, v] :=
  Ats.mkE hs.between.1 hs.between.2.1 hs.between.2.2 h.at_
theorem costX (k n : Int) (t : ByteArray) (args : List Ex) : (Ex.mk k n t args).cost = t.size + (args.length + Ex.costs args) := by rw [Ex.cost]
theorem costs_one (e : Ex) : Ex.costs [e] = e.cost := by simp [Ex.costs]
theorem costs_two (e f : Ex) : Ex.costs [e, f] = e.cost + f.cost := by simp [Ex.costs]
theorem costs_three (e f x : Ex) : Ex.costs [e, f, x] = e.cost + (f.cost + x.cost) := by simp [Ex.costs]
end Go.Proofs.Ytghemlokpfipoaa
