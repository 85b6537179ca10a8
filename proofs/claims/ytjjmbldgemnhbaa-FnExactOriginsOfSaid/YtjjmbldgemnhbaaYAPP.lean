/-
  An append of whatever slice (nil too) to a row of the call's own; the cells of a slice that lies; two lists in one row.
-/
import Derived.Test.YtjjmbldgemnhbaaYCP1
import Derived.Deep.Upon
namespace Go.Proofs.Ytjjmbldgemnhbaa
open Go.ChangeShapes Go.WideShapes Go.ChangeAt Go.RowKit
set_option linter.unusedVariables false
set_option linter.unusedSimpArgs false

theorem run_append_any {P : Program} (w : World) (base : Nat) (t ty e : TypeId) (i : TypeInfo) (z : Value) (size bytes : Nat) (ht : P.underlying t = some (.slice e)) (hi : P.info? e = some i) (hz : i.zero = some z)
    (hsize : i.size = size) (hby : i.bytes = bytes) (hzs : z.cells.size = size) (hsz : 0 < size) (v : Value) (n : Nat) (xs : List Value) (hown : w.ownsRow base e size v n xs)
    (A : Option Addr) (m c : Nat) (news : List Value) (hl : news.length = m * size) (hA : A = none → m = 0) (hnews : ∀ ad, A = some ad → ∀ j u, news[j]? = some u → w.cell? (ad.add j) = some u) (h1 : ∀ u ∈ news, u.oneCell' = true)
    (h63 : n + m ≤ maxLen) (hbytes : (n + m) * bytes ≤ 140737488355328) (hbase : base ≤ w.heap.size) :
    ∃ v' w', (Builtin.append_ #[t, t] ty #[v, .slice A m c]).run P w = .ok v' w' ∧ w'.ownsRow base e size v' (n + m) (xs ++ news) ∧ w.grownBy w' v.ownBlock ∧ (v'.ownBlock = v.ownBlock ∨ v'.ownBlock = some w.heap.size) := by
  cases A with
  | some ad =>
    obtain ⟨v', w', h1, h2, h3, _, h5⟩ := run_append_own_at (P := P) w base t ty e i z size bytes ht hi hz hsize hby hzs hsz v n xs hown ad m c news hl (hnews ad rfl) h1 h63 hbytes hbase
    exact ⟨v', w', h1, h2, h3, h5⟩
  | none =>
    have hm := hA rfl
    subst hm
    have hn : news = [] := List.eq_nil_of_length_eq_zero (by omega)
    subst hn
    obtain ⟨B, d, rfl, hle, _, _⟩ := row_shape hown
    refine ⟨_, _, run_append_nothing (P := P) w t t ty e i ht hi B n d hle _ (Src.ofNil w ht c), by simpa using hown, ⟨rfl, rfl, rfl, Nat.le_refl _, fun _ _ _ => rfl⟩, .inl rfl⟩
theorem step_append_any {P : Program} (w : World) {ops : Array Oper} {o : Oper} {a : Act} {K : Act → World → Prop} {Q : Exit → Act → World → Prop} {E : Prop} (hgd : o.guard = none) (s x : Operand) (t : TypeId)
    (ho : o.op = .call { callee := .builtin .append, args := #[s, x], argTypes := #[t, t] })
    (e : TypeId) (i : TypeInfo) (z : Value) (size bytes : Nat) (ht : P.underlying t = some (.slice e)) (hi : P.info? e = some i) (hz : i.zero = some z)
    (hsize : i.size = size) (hby : i.bytes = bytes) (hzs : z.cells.size = size) (hsz : 0 < size)
    (v : Value) (n : Nat) (xs : List Value) (hs : a.eval s = v) (hown : w.ownsRow 0 e size v n xs)
    (A : Option Addr) (m c : Nat) (news : List Value) (hx : a.eval x = .slice A m c) (hl : news.length = m * size) (hA : A = none → m = 0) (hnews : ∀ ad, A = some ad → ∀ j u, news[j]? = some u → w.cell? (ad.add j) = some u) (h1 : ∀ u ∈ news, u.oneCell' = true)
    (h63 : n + m ≤ maxLen) (hbytes : (n + m) * bytes ≤ 140737488355328)
    (h : ∀ v' w', w'.ownsRow 0 e size v' (n + m) (xs ++ news) → w.grownBy w' v.ownBlock → (v'.ownBlock = v.ownBlock ∨ v'.ownBlock = some w.heap.size) → K (a.put o.dst v') w') :
    if Region.wanted o (yielded ops a.tmps) = true then Oper.wp P o a w K Q else E := by
  have hw : Region.wanted o (yielded ops a.tmps) = true := by simp [Region.wanted, hgd]
  rw [if_pos hw]
  obtain ⟨v', w', hr, h2, h3, h4⟩ := run_append_any (P := P) w 0 t o.type e i z size bytes ht hi hz hsize hby hzs hsz v n xs hown A m c news hl hA hnews h1 h63 hbytes (Nat.zero_le _)
  unfold Oper.wp execOp
  simp only [ho, resolve, invoke, builtin, Sem.run_bind, Sem.run_pure, Result.andThen_ok, List.map_toArray, List.map_cons, List.map_nil, hs, hx, hr]
  exact h v' w' h2 h3 h4
/-- The cells of a slice that lies. -/
theorem any_cells {w : World} {S : Nat → Prop} {s n c : Nat} {A : Option Addr} {ds : List Dt} (h : At w S (.sl s n ds) (.slice A n c)) (h0 : 0 < s) :
    ∃ us : List Value, us.length = n * s ∧ (A = none → n = 0) ∧ (∀ W', Later w W' → ∀ ad, A = some ad → ∀ j u, us[j]? = some u → W'.cell? (ad.add j) = some u) ∧ (∀ u ∈ us, u.oneCell' = true) ∧
      ∀ (p : Nat) d u, ds[p]? = some d → us[p]? = some u → At w anyB d u := by
  cases h with
  | sl _ _ _ _ _ F hln hc hA hF =>
    refine ⟨(List.range ds.length).map F, by simpa using hln, fun e => ?_, fun W' hW ad e j u hu => ?_, fun u hu => ?_, fun p d u hd hu => ?_⟩
    · by_cases hd : ds = []
      · subst hd
        simp only [List.length_nil] at hln
        rcases Nat.eq_zero_or_pos n with h | h
        · exact h
        · have := Nat.mul_pos h h0
          omega
      · obtain ⟨b, off, e2, _⟩ := hA hd
        rw [e] at e2
        cases e2
    · have hj : j < ds.length := by have := (List.getElem?_eq_some_iff.1 hu).1; simpa using this
      have hu2 : u = F j := by rw [List.getElem?_map, List.getElem?_range hj] at hu; simpa using hu.symm
      obtain ⟨b, off, e2, _, _, hcell⟩ := hA (by intro h; rw [h] at hj; simp at hj)
      rw [e] at e2
      simp only [Option.some.injEq] at e2
      subst e2
      rw [add_lit, hu2]
      exact kept_cell hW (hcell j hj)
    · obtain ⟨j, hj, rfl⟩ := List.mem_map.1 hu
      rw [List.mem_range] at hj
      exact at_one (hF j _ (List.getElem?_eq_getElem hj))
    · have hp : p < ds.length := (List.getElem?_eq_some_iff.1 hd).1
      rw [List.getElem?_map, List.getElem?_range hp] at hu
      simp only [Option.map_some, Option.some.injEq] at hu
      subst hu
      exact (hF p d hd).any
/-- A row of the call's own whose cells lie. -/
theorem at_row {w : World} {base e s n : Nat} {v : Value} {xs : List Value} {ds : List Dt} (hown : w.ownsRow base e s v n xs) (hl : ds.length = n * s) (h : ∀ (p : Nat) d u, ds[p]? = some d → xs[p]? = some u → At w anyB d u) : At w anyB (.sl s n ds) v := by
  obtain ⟨A, c, rfl, h1, h2, h3⟩ := row_shape hown
  refine At.make hl h1 h2 fun hn => ?_
  have hn0 : 0 < n := by
    rcases Nat.eq_zero_or_pos n with h | h
    · subst h; simp at hl; exact absurd hl hn
    · exact h
  obtain ⟨g, rfl, hg⟩ := h3 hn0
  refine ⟨g, 0, rfl, (hown.lt g hg).2, trivial, fun i d hd => ?_⟩
  have hi : i < n * s := by rw [← hl]; exact (List.getElem?_eq_some_iff.1 hd).1
  have hu : xs[i]? = some (xs[i]'(by rw [hown.1]; exact hi)) := List.getElem?_eq_getElem _
  exact ⟨_, by rw [Nat.zero_add, hown.cellAt i hi, hu], h i d _ hd hu⟩
theorem at_two {w : World} {base e : Nat} {v : Value} {l l' : List Vl} {xs us : List Value} (hown : w.ownsRow base e 7 v (l.length + l'.length) (xs ++ us)) (hxl : xs.length = l.length * 7)
    (hx : ∀ (p : Nat) d u, (l.flatMap encV)[p]? = some d → xs[p]? = some u → At w anyB d u) (hu : ∀ (p : Nat) d u, (l'.flatMap encV)[p]? = some d → us[p]? = some u → At w anyB d u) : SlAt w anyB 7 encV (l ++ l') v := by
  unfold SlAt
  rw [List.length_append]
  have hf := flat_len encV_len l
  refine at_row hown (by rw [flat_len encV_len, List.length_append]) fun p d u hd hp => ?_
  rw [List.flatMap_append] at hd
  by_cases h : p < l.length * 7
  · rw [List.getElem?_append_left (by omega)] at hd hp
    exact hx p d u hd hp
  · rw [List.getElem?_append_right (by omega)] at hd hp
    rw [hf] at hd
    rw [hxl] at hp
    exact hu _ d u hd hp
end Go.Proofs.Ytjjmbldgemnhbaa
